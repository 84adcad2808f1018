/-
  The walk of horologelaw18.UdpBack.
-/
import Derived.Test.YtnckmaieghlpmaaLawUputs
import Derived.Test.YtnckmaieghlpmaaUback2
import Derived.Test.YtnckmaieghlpmaaAgg
import Derived.BigRegion
import Derived.Deep.RegionHeld3
import Derived.Deep.DrawnRows
namespace Go.Proofs.Ytnckmaieghlpmaa
open Go.RowKit
set_option linter.unusedVariables false
attribute [local go_sem ↓] fold_ld54 fold_st54 Go.wp_at_zero Go.wp_at_succ
attribute [local go_sem] ld54_at st54_at free_new free_new1 free_new2 free_new3 free_setCells free_drew size_sets

theorem xor_flip : ∀ x : Nat, x < 256 → ∀ j : Nat, j < 8 → bits BinOp.xor IntKind.u8 (x : Int) ((128 >>> j : Nat) : Int) = ((x ^^^ (128 >>> j) : Nat) : Int) ∧ x ^^^ (128 >>> j) < 256 := by decide +kernel
theorem shr_flip : ∀ j : Nat, j < 8 → (128 : Int) / 2 ^ j = ((128 >>> j : Nat) : Int) := by decide +kernel
/-- a byte with one bit another one -/
theorem flipped (x : UInt8) (j : Nat) (hj : j < 8) : ∃ x' : UInt8, x'.toNat = x.toNat ^^^ (128 >>> j) ∧ bits BinOp.xor IntKind.u8 (x.toNat : Int) ((128 >>> j : Nat) : Int) = (x'.toNat : Int) := by
  obtain ⟨h1, h2⟩ := xor_flip x.toNat x.toNat_lt j hj
  have e : (UInt8.ofNat (x.toNat ^^^ (128 >>> j))).toNat = x.toNat ^^^ (128 >>> j) := Nat.mod_eq_of_lt h2
  exact ⟨UInt8.ofNat (x.toNat ^^^ (128 >>> j)), e, by rw [h1, e]⟩

/-- two addresses of the call's own, in blocks behind B -/
def Pair (w6 wx : World) (s : Bool) (X Y : List UInt8) (n m : Nat) : Prop :=
  Below w6.heap.size w6 wx ∧ w6.heap.size ≤ n ∧ w6.heap.size ≤ m ∧ n ≠ m ∧ AdrAt wx n 0 s X ∧ AdrAt wx m 0 s Y ∧ free wx n 0 17 = true ∧ free wx m 0 17 = true
theorem Pair.swap {w6 wx : World} {s : Bool} {X Y : List UInt8} {n m : Nat} (h : Pair w6 wx s X Y n m) : Pair w6 wx s Y X m n :=
  ⟨h.1, h.2.2.1, h.2.1, Ne.symm h.2.2.2.1, h.2.2.2.2.2.1, h.2.2.2.2.1, h.2.2.2.2.2.2.2, h.2.2.2.2.2.2.1⟩
section
variable (w : World) (s : Bool) (X Y : List UInt8) (z z' : Array Value) (hz : z.size = 17) (hz' : z'.size = 17) (hX : X.length = 16) (hY : Y.length = 16)
include hz hz' hX hY
theorem pair1 : Pair w ((((w.drew.alloc (.cells z 54)).setCells w.heap.size 0 (adrC s X).toList).alloc (.cells z' 54)).setCells (w.heap.size + 1) 0 (adrC s Y).toList) s X Y w.heap.size (w.heap.size + 1) := by
  have f1 : free (w.drew.alloc (.cells z 54)) w.heap.size 0 17 = true := free_new w.drew z 54 _ _ rfl (by omega)
  have a1 := adrAt_sets (s := s) (A := X) f1 hX
  have f1' := free_setCells f1 w.heap.size 0 (adrC s X).toList
  have s1 : ((w.drew.alloc (.cells z 54)).setCells w.heap.size 0 (adrC s X).toList).heap.size = w.heap.size + 1 := by rw [size_sets]; simp
  have f2 : free (((w.drew.alloc (.cells z 54)).setCells w.heap.size 0 (adrC s X).toList).alloc (.cells z' 54)) (w.heap.size + 1) 0 17 = true := free_new _ z' 54 _ _ s1 (by omega)
  have a2 := adrAt_sets (s := s) (A := Y) f2 hY
  have b1 : Below w.heap.size w (((w.drew.alloc (.cells z 54)).setCells w.heap.size 0 (adrC s X).toList).alloc (.cells z' 54)) :=
    (below_sets (Nat.le_refl _) _ _ ((Below.refl _ _).drew.alloc (Nat.le_refl _) _)).alloc (by show w.heap.size ≤ _; rw [size_sets]; simp) _
  exact ⟨below_sets (by omega) _ _ b1, Nat.le_refl _, by omega, by omega, (a1.alloc _).sets _ _ _ (by omega), a2, free_setCells (free_alloc f1' _) _ _ _, free_setCells f2 _ _ _⟩
theorem pair2 : Pair w ((((w.drew.alloc (.cells z 54)).alloc (.cells z' 54)).setCells w.heap.size 0 (adrC s X).toList).setCells (w.heap.size + 1) 0 (adrC s Y).toList) s X Y w.heap.size (w.heap.size + 1) := by
  have f1 : free ((w.drew.alloc (.cells z 54)).alloc (.cells z' 54)) w.heap.size 0 17 = true := free_alloc (free_new w.drew z 54 _ _ rfl (by omega)) _
  have f2 : free ((w.drew.alloc (.cells z 54)).alloc (.cells z' 54)) (w.heap.size + 1) 0 17 = true := free_new _ z' 54 _ _ (by simp) (by omega)
  have a1 := adrAt_sets (s := s) (A := X) f1 hX
  have a2 := adrAt_sets (s := s) (A := Y) (free_setCells f2 w.heap.size 0 (adrC s X).toList) hY
  have b1 : Below w.heap.size w ((w.drew.alloc (.cells z 54)).alloc (.cells z' 54)) := ((Below.refl _ _).drew.alloc (Nat.le_refl _) _).alloc (by simp) _
  exact ⟨below_sets (by omega) _ _ (below_sets (Nat.le_refl _) _ _ b1), Nat.le_refl _, by omega, by omega, a1.sets _ _ _ (by omega), a2, free_setCells (free_setCells f1 _ _ _) _ _ _, free_setCells (free_setCells f2 _ _ _) _ _ _⟩
theorem pair3 : Pair w ((((w.drew.alloc (.cells z 54)).alloc (.cells z' 54)).setCells (w.heap.size + 1) 0 (adrC s Y).toList).setCells w.heap.size 0 (adrC s X).toList) s X Y w.heap.size (w.heap.size + 1) := by
  have f1 : free ((w.drew.alloc (.cells z 54)).alloc (.cells z' 54)) w.heap.size 0 17 = true := free_alloc (free_new w.drew z 54 _ _ rfl (by omega)) _
  have f2 : free ((w.drew.alloc (.cells z 54)).alloc (.cells z' 54)) (w.heap.size + 1) 0 17 = true := free_new _ z' 54 _ _ (by simp) (by omega)
  have a2 := adrAt_sets (s := s) (A := Y) f2 hY
  have a1 := adrAt_sets (s := s) (A := X) (free_setCells f1 (w.heap.size + 1) 0 (adrC s Y).toList) hX
  have b1 : Below w.heap.size w ((w.drew.alloc (.cells z 54)).alloc (.cells z' 54)) := ((Below.refl _ _).drew.alloc (Nat.le_refl _) _).alloc (by simp) _
  exact ⟨below_sets (Nat.le_refl _) _ _ (below_sets (by omega) _ _ b1), Nat.le_refl _, by omega, by omega, a1, a2.sets _ _ _ (by omega), free_setCells (free_setCells f1 _ _ _) _ _ _, free_setCells (free_setCells f2 _ _ _) _ _ _⟩
end

theorem pair_put {w6 wx : World} {s : Bool} {X Y : List UInt8} {n m : Nat} (h : Pair w6 wx s X Y n m) (i : Nat) (x : UInt8) (hi : i < X.length) : Pair w6 (wx.setCell ⟨n, 1 + i, none⟩ (.int .u8 (x.toNat : Int))).drew s (X.set i x) Y n m :=
  ⟨(h.1.setCell h.2.1 _).drew, h.2.1, h.2.2.1, h.2.2.2.1, (h.2.2.2.2.1.put i x hi).below (below_drewN _ 1),
    (h.2.2.2.2.2.1.sets n (1 + i) [.int .u8 (x.toNat : Int)] (Ne.symm h.2.2.2.1)).below (below_drewN _ 1),
    (free_drew _ _ _ _).trans (free_setCells h.2.2.2.2.2.2.1 n (1 + i) [.int .u8 (x.toNat : Int)]), (free_drew _ _ _ _).trans (free_setCells h.2.2.2.2.2.2.2 n (1 + i) [.int .u8 (x.toNat : Int)])⟩
theorem heap_setCell_far (w : World) (g : Nat) (p : Addr) (hp : g ≠ p.block) {v : Value} : (w.setCell p v).heap[g]? = w.heap[g]? := Below.heap_setCell w p v g hp

/-- what a load of either end's address, or of the data, finds -/
def EndsLd (w w5 w' : World) (s : Bool) (A B : List UInt8) : Prop :=
  has w' w.heap.size 0 17 = true ∧ rd w' w.heap.size 0 17 = adrC s A ∧ has w' (w.heap.size + 1) 0 17 = true ∧ rd w' (w.heap.size + 1) 0 17 = adrC s B ∧ Below w5.heap.size w5 w'
theorem endsLd {w w5 w' : World} {s : Bool} {A B : List UInt8} {sp dp : Nat} {v : Value} {bs : List UInt8} (h : EndsSt w w5 s s A B sp dp v bs) (hA : A.length = 16) (hB : B.length = 16) (hb : Below w5.heap.size w5 w') : EndsLd w w5 w' s A B :=
  have h' := h.below hb
  ⟨h'.2.1.adr.has hA, h'.2.1.adr.rd hA, h'.2.2.1.adr.has hB, h'.2.2.1.adr.rd hB, hb⟩

/-- what Open makes of such bytes, in whatever world they lie -/
def OpensTo (s : Bool) (A B N : List UInt8) (f t d : Nat) (xs : List UInt8) : Prop :=
  ∀ w v, Bs w v N → Calls Try.prog 38 #[.agg (adrC s A), .agg (adrC s B), v] w (OpenAny w f t d xs)
theorem opens_to {s : Bool} {A B N : List UInt8} {f t d : Nat} {xs : List UInt8} (hA : A.length = 16) (hB : B.length = 16) (h : udpWhy s s A B N = d ∧ udpFrom s s A B N = f ∧ udpTo s s A B N = t ∧ udpData s s A B N = xs) : OpensTo s A B N f t d xs := by
  obtain ⟨rfl, rfl, rfl, rfl⟩ := h
  exact fun w v hb => open_any w s s A B v N hA hB hb
theorem opens_not {s : Bool} {A B N : List UInt8} (hA : A.length = 16) (hB : B.length = 16) (h : udpWhy s s A B N = 5) : OpensTo s A B N 0 0 5 [] :=
  opens_to hA hB ⟨h, why_none h⟩

set_option maxRecDepth 100000 in
set_option maxHeartbeats 1000000 in
theorem law_uback_great (w : World) (s t : Bool) (A B : List UInt8) (sp dp : Nat) (v vm : Value) (bs ms : List UInt8) (cut bit : Nat) (hb : Bs w v bs) (hm : Bs w vm ms) (hl : 300 < bs.length ∨ 300 < ms.length) :
    Calls Try.prog 9 #[.agg (endC s A sp), .agg (endC t B dp), v, vm, .int .u16 cut, .int .u16 bit] w fun e w' => e = .returned (.bool true) ∧ Below w.heap.size w w' := by
  have HS : Hid (EndsSt w _ s t A B sp dp v bs) := endsSt_new w s t A B sp dp v bs hb
  obtain ⟨a, c, rfl, hl1, hl2, hat⟩ := hb
  obtain ⟨am, cm, rfl, hm1, hm2, hatm⟩ := hm
  clear hat hatm
  unfold maxLen at hl2 hm2
  by_cases h3 : (300 : Int) < (bs.length : Int)
  · clear hl
    go_enter Try.func9, Try.ntmps9
    go_wp2_with fail
    refine (known18 _).mono ?_; rintro e w1 ⟨rfl, hb1⟩
    have HS1 : Hid (EndsSt w w1 s t A B sp dp (.slice a bs.length c) bs) := HS.out.below hb1
    clear hb1 HS
    go_wp2_with fail
    go_ret
    exact ⟨rfl, HS1.out.1⟩
  · have h4 : (300 : Int) < (ms.length : Int) := by omega
    clear hl
    go_enter Try.func9, Try.ntmps9
    go_wp2_with fail
    refine (known18 _).mono ?_; rintro e w1 ⟨rfl, hb1⟩
    have HS1 : Hid (EndsSt w w1 s t A B sp dp (.slice a bs.length c) bs) := HS.out.below hb1
    clear hb1 HS
    go_wp2_with fail
    go_ret
    exact ⟨rfl, HS1.out.1⟩

set_option maxRecDepth 100000 in
set_option maxHeartbeats 1000000 in
theorem law_uback_other (w : World) (s t : Bool) (A B : List UInt8) (sp dp : Nat) (v vm : Value) (bs ms : List UInt8) (cut bit : Nat) (hA : A.length = 16) (hB : B.length = 16) (hb : Bs w v bs) (hm : Bs w vm ms) (hl : bs.length ≤ 300) (hlm : ms.length ≤ 300) (hsp : sp < 65536) (hdp : dp < 65536) (hst : s ≠ t) :
    Calls Try.prog 9 #[.agg (endC s A sp), .agg (endC t B dp), v, vm, .int .u16 cut, .int .u16 bit] w fun e w' => e = .returned (.bool true) ∧ Below w.heap.size w w' := by
  have HS : Hid (EndsSt w _ s t A B sp dp v bs) := endsSt_new w s t A B sp dp v bs hb
  obtain ⟨a, c, rfl, hl1, hl2, hat⟩ := hb
  obtain ⟨am, cm, rfl, hm1, hm2, hatm⟩ := hm
  clear hat hatm
  unfold maxLen at hl2 hm2
  have h3 : ¬ (300 : Int) < (bs.length : Int) := by omega
  have h4 : ¬ (300 : Int) < (ms.length : Int) := by omega
  have hst1 : (s != t) = true := by simpa using hst
  have hst2 : (s == t) = false := by simpa using hst
  have HA := Lib.hid hA
  have HB := Lib.hid hB
  have HP := Lib.hid (uput_any · s t A B sp dp (.slice a bs.length c) bs hA hB · hl hsp hdp)
  unfold putErr putBytes at HP
  rw [if_neg hst, if_neg hst] at HP
  clear hst hA hB
  go_enter Try.func9, Try.ntmps9
  go_wp2_with fail
  refine (known18 _).mono ?_; rintro e w1 ⟨rfl, hb1⟩
  have HS1 : Hid (EndsSt w w1 s t A B sp dp (.slice a bs.length c) bs) := HS.out.below hb1
  clear hb1 HS
  go_wp2_with (first | ((with_reducible refine wpList_load61 w.heap.size s A sp ?_ ?_ ?_ ?_); rfl; exact HS1.out.2.1; exact HA.out) | ((with_reducible refine wpList_load61 (w.heap.size + 1) t B dp ?_ ?_ ?_ ?_); rfl; exact HS1.out.2.2.1; exact HB.out))
  refine (HP.out _ HS1.out.2.2.2).mono ?_
  rintro e w2 ⟨a2, c2, rfl, hb2, hbel2⟩
  have HS2 : Hid (EndsSt w w2 s t A B sp dp (.slice a bs.length c) bs) := HS1.out.below hbel2
  have f1 := HS2.out.2.1.adr.flag
  have f2 := HS2.out.2.2.1.adr.flag
  clear hbel2 HS1 hb2
  go_wp2_with fail
  go_ret
  exact ⟨rfl, HS2.out.1⟩

set_option maxRecDepth 100000 in
set_option maxHeartbeats 2000000 in
theorem law_uback (w : World) (s : Bool) (A B : List UInt8) (sp dp : Nat) (v vm : Value) (bs ms : List UInt8) (cut bit : Nat) (hA : A.length = 16) (hB : B.length = 16) (hb : Bs w v bs) (hm : Bs w vm ms) (hl : bs.length ≤ 300) (hlm : ms.length ≤ 300) (hsp : sp < 65536) (hdp : dp < 65536) (hc16 : cut < 65536) (hbit : bit < 65536) :
    Calls Try.prog 9 #[.agg (endC s A sp), .agg (endC s B dp), v, vm, .int .u16 cut, .int .u16 bit] w fun e w' => e = .returned (.bool true) ∧ Below w.heap.size w w' := by
  have HS : Hid (EndsSt w _ s s A B sp dp v bs) := endsSt_new w s s A B sp dp v bs hb
  have HM : Hid (Bs ((w.alloc (.cells (endC s A sp) 61)).alloc (.cells (endC s B dp) 61)) vm ms) := (hm.alloc _).alloc _
  obtain ⟨a, c, rfl, hl1, hl2, hat⟩ := hb
  obtain ⟨am, cm, rfl, hm1, hm2, hatm⟩ := hm
  clear hat hatm
  unfold maxLen at hl2 hm2
  have h3 : ¬ (300 : Int) < (bs.length : Int) := by omega
  have h4 : ¬ (300 : Int) < (ms.length : Int) := by omega
  have HA := Lib.hid hA
  have HB := Lib.hid hB
  clear hA hB
  go_enter Try.func9, Try.ntmps9
  go_wp2_with fail
  refine (known18 _).mono ?_; rintro e w1 ⟨rfl, hb1⟩
  have HS1 : Hid (EndsSt w w1 s s A B sp dp (.slice a bs.length c) bs) := HS.out.below hb1
  have HM1 : Hid (Bs w1 (.slice am ms.length cm) ms) := HM.out.below hb1
  clear hb1 HS HM
  go_wp2_with (first | ((with_reducible refine wpList_load61 w.heap.size s A sp ?_ ?_ ?_ ?_); rfl; exact HS1.out.2.1; exact HA.out) | ((with_reducible refine wpList_load61 (w.heap.size + 1) s B dp ?_ ?_ ?_ ?_); rfl; exact HS1.out.2.2.1; exact HB.out))
  refine (uput_yes _ s A B sp dp _ bs HA.out HB.out HS1.out.2.2.2 hl hsp hdp).mono ?_
  rintro e w2 ⟨Y, a2, c2, rfl, hY, oY, bY, q1, q2⟩
  have HS2 : Hid (EndsSt w w2 s s A B sp dp (.slice a bs.length c) bs) := HS1.out.below bY
  have HM2 : Hid (Bs w2 (.slice am ms.length cm) ms) := HM1.out.below bY
  have HY : Hid (Y = udpB s A B sp dp bs) := hY
  have HBY : Hid (Bs w2 (.slice a2 Y.length c2) Y) := oY.bs
  have HYl : Hid (Y.length = 8 + bs.length) := Lib.hid (by rw [HY.out, udpB_len])
  have f1 := HS2.out.2.1.adr.flag
  have f2 := HS2.out.2.2.1.adr.flag
  clear oY bY hY HS1 HM1
  have tok1 : True := trivial
  have tok2 : True := trivial
  go_wp2_with (first
    | (at_builtin; have _t := tok1; refine wpList_app' rfl _ _ rfl w2.heap.size _ [] rfl (own_lit w2 [] _ _ rfl (Nat.le_refl _) (Nat.zero_le _)) _ Y rfl (HBY.out.alloc _) (by rw [HYl.out]; simp; omega) (by simp) ?_; intro M ax cx w3 EM OM LM NM hcm; clear tok1)
    | (at_builtin; have _t := tok2; refine wpList_app' rfl _ _ rfl w2.heap.size _ M rfl OM.out _ ms rfl (HM2.out.below ((below_alloc _ _).trans LM.out)) (by rw [NM.out, HYl.out]; simp; omega) (by have := LM.out.size; simp at this; omega) ?_; intro N a4 c4 w4 EN ON LN NN hcn; clear tok2; have L4 : Hid (Below w2.heap.size w2 w4) := Lib.hid (((below_alloc _ _).trans LM.out).trans LN.out); have HS4 : Hid (EndsSt w w4 s s A B sp dp (.slice a bs.length c) bs) := HS2.out.below L4.out)
    | ((with_reducible refine wpList_load54 w.heap.size 0 s A ?_ ?_ ?_ ?_); rfl; exact HS4.out.2.1.adr; exact HA.out)
    | ((with_reducible refine wpList_load54 (w.heap.size + 1) 0 s B ?_ ?_ ?_ ?_); rfl; exact HS4.out.2.2.1.adr; exact HB.out)
    | fail)
  have HN : Hid (N = udpB s A B sp dp bs ++ ms) := Lib.hid (by rw [EN.out, EM.out, HY.out]; rfl)
  have HBY4 : Hid (Bs w4 (.slice a2 Y.length c2) Y) := HBY.out.below L4.out
  have HO1 : Hid (OpensTo s A B N sp dp 0 bs) := Lib.hid (by
    rw [HN.out]
    have q := back_open s A B sp dp bs ms HA.out HB.out hsp hdp hl
    exact opens_to HA.out HB.out q)
  have HNl : Hid (N.length = 8 + bs.length + ms.length) := Lib.hid (by rw [HN.out, List.length_append, udpB_len])
  have HS2s : Hid (w.heap.size ≤ w2.heap.size) := Lib.hid HS2.out.1.size
  have HW3 : Hid (w.heap.size + 2 ≤ w2.heap.size) := Lib.hid (lt_of_block HS2.out.2.2.1)
  clear EN EM OM LM LN NM NN HBY f1 f2 HS2 HM2 L4 hcm
  refine (HO1.out _ _ ON.out.bs).mono ?_
  rintro e w5 ⟨a5, rfl, hb5, bel5⟩
  have HS5 : Hid (EndsSt w w5 s s A B sp dp (.slice a bs.length c) bs) := HS4.out.below bel5
  have HBY5 : Hid (Bs w5 (.slice a2 Y.length c2) Y) := HBY4.out.below bel5
  have ON5 : Hid (Own w5 w2.heap.size (.slice a4 N.length c4) N) := ON.out.below bel5
  obtain ⟨S, hS⟩ : ∃ S, S = mkS bs := ⟨_, rfl⟩
  have hk1 : (convert 24 9 (.slice a5 bs.length bs.length)).run Try.prog w5 = .ok (.string S) w5 := hS ▸ conv_bs hb5
  have hk2 : (convert 24 9 (.slice a bs.length c)).run Try.prog w5 = .ok (.string S) w5 := hS ▸ conv_bs HS5.out.2.2.2
  have p1 : w5.cell? ⟨w.heap.size, 17, none⟩ = some (.int .u16 (sp : Int)) := end_port HS5.out.2.1 HA.out
  have p2 : w5.cell? ⟨w.heap.size + 1, 17, none⟩ = some (.int .u16 (dp : Int)) := end_port HS5.out.2.2.1 HB.out
  clear hb5 bel5 HS4 HBY4 ON hS HO1
  have y1 : (Y.length : Int) = 8 + (bs.length : Int) := by rw [HYl.out]; omega
  go_wp2_with fail
  clear y1 hk1 hk2 p1 p2
  obtain ⟨m, hm⟩ : ∃ m : Nat, m = cut % Y.length := ⟨_, rfl⟩
  have hmY : m < Y.length := by rw [hm]; exact Nat.mod_lt _ (by rw [HYl.out]; omega)
  have d1 : (cut : Int) % (Y.length : Int) = (m : Int) := by rw [hm]; simp
  have d2 : (cut : Int).tmod (Y.length : Int) = (m : Int) := by rw [Int.tmod_eq_emod_of_nonneg (Int.natCast_nonneg cut)]; exact d1
  have d6 : ¬ Y = [] := fun h => by rw [h] at hmY; simp at hmY
  have d7 : IntKind.i64.wrap (cut : Int) = (cut : Int) := IntWalk.i64_in _ (by omega)
  have d4 : (0 : Int) ≤ (m : Int) := by omega
  have d5 : (m : Int) ≤ (c2 : Int) := by omega
  clear hm
  have HO2 : Hid (OpensTo s A B (Y.take m) 0 0 3 []) := Lib.hid (by
    have hp := udpS_pos s A B sp dp bs
    rw [HY.out, udpB_W]
    have q := back_cut s A B sp dp (udpS s A B sp dp bs) bs m hsp hdp (by omega) hl (by rw [HYl.out] at hmY; exact hmY)
    exact opens_to HA.out HB.out ⟨q, by unfold udpFrom; rw [q]; rfl, by unfold udpTo; rw [q]; rfl, by unfold udpData; rw [q]; rfl⟩)
  have HBm : Hid (Bs w5 (.slice a2 m c2) (Y.take m)) := bs_take HBY5.out (by omega)
  clear hmY
  go_region_held3 (fun w' => has w' w.heap.size 0 17 = true ∧ rd w' w.heap.size 0 17 = adrC s A ∧ has w' (w.heap.size + 1) 0 17 = true ∧ rd w' (w.heap.size + 1) 0 17 = adrC s B ∧ Below w5.heap.size w5 w')
    ((go_split_ands; first | exact endsLd HS5.out HA.out HB.out (Below.refl _ _).drew | exact endsLd HS5.out HA.out HB.out (Below.trans (by assumption) (Below.mono (by assumption) (Below.size (by assumption)))) | fail))
    (first | (go_at_call 38; go_split_ands; refine (HO2.out _ _ (HBm.out.below (by assumption))).mono ?_; rintro e w6 ⟨a6, rfl, hb6, bel6⟩; dsimp only) | fail)
  have L6 : Hid (Below w5.heap.size w5 w6) := Lib.hid (Below.trans (by assumption) (Below.mono bel6 (Below.size (by assumption))))
  have HS6 : Hid (EndsSt w w6 s s A B sp dp (.slice a bs.length c) bs) := HS5.out.below L6.out
  have ON6 : Hid (Own w6 w2.heap.size (.slice a4 N.length c4) N) := ON5.out.below L6.out
  rename_i hh1 hh2
  clear hb6 bel6 HS5 HBY5 HBm HO2 ON5 hh1 hh2 d1 d2 d4 d5 d6 d7 L6
  obtain ⟨j, hj⟩ : ∃ j : Nat, j = bit % 8 := ⟨_, rfl⟩
  have hj8 : j < 8 := by omega
  obtain ⟨fl, hfl⟩ : ∃ fl : Nat, fl = 128 >>> j := ⟨_, rfl⟩
  have e25 : (128 : Int) / 2 ^ (bit % 8) = (fl : Int) := by rw [hfl, ← hj]; exact shr_flip j hj8
  have HFL := Lib.hid hfl
  have HJ8 := Lib.hid hj8
  clear hj hj8 hfl
  obtain ⟨g4, cap4, he4, hg41, hg42, hg43, hg44⟩ : ∃ gb cap, Value.slice a4 N.length c4 = .slice (some ⟨gb, 0, none⟩) N.length cap ∧ w2.heap.size ≤ gb ∧ gb < w6.heap.size ∧ N.length ≤ cap ∧ cap ≤ maxLen := by
    rcases ON6.out.shape with ⟨_, h⟩ | h
    · have := HNl.out; rw [h] at this; simp at this; omega
    · exact h
  simp only [Value.slice.injEq, true_and] at he4
  obtain ⟨rfl, rfl⟩ := he4
  have HG4 := Lib.hid (And.intro hg41 hg42)
  have HW2 := Lib.hid (Nat.le_trans HS2s.out hg41)
  clear hg41 hg42 hg43 hg44
  have z1 := HS6.out.2.1.adr.flag
  cases s
  · go_upto_region 19 with fail
    simp only [e25]
    clear e25
    have hA' := HA.out
    have hB' := HB.out
    go_cut [26, 27] (fun s26 s27 wx => ∃ ga gc : Nat, s26 = .pointer (some ⟨ga, 0, none⟩) ∧ s27 = .pointer (some ⟨gc, 0, none⟩) ∧ Hid (Pair w6 wx false A B ga gc))
    case first =>
      go_region_held3 (fun w' => has w' w.heap.size 0 17 = true ∧ rd w' w.heap.size 0 17 = adrC false A ∧ has w' (w.heap.size + 1) 0 17 = true ∧ rd w' (w.heap.size + 1) 0 17 = adrC false B ∧ Below w6.heap.size w6 w')
        ((go_split_ands; first
          | exact endsLd HS6.out HA.out HB.out (Below.refl _ _).drew
          | exact endsLd HS6.out HA.out HB.out (Below.alloc (by assumption) (Below.size (by assumption)) _)
          | exact endsLd HS6.out HA.out HB.out (below_sets (by omega) _ _ (by assumption))
          | fail))
        (fail)
      all_goals
        go_wp2_with fail
        go_meet
      all_goals
        first
          | exact ⟨_, _, rfl, rfl, pair1 w6 false A B _ _ rfl rfl HA.out HB.out⟩
          | exact ⟨_, _, rfl, rfl, pair2 w6 false A B _ _ rfl rfl HA.out HB.out⟩
          | exact ⟨_, _, rfl, rfl, pair3 w6 false A B _ _ rfl rfl HA.out HB.out⟩
          | exact ⟨_, _, rfl, rfl, (pair1 w6 false B A _ _ rfl rfl HB.out HA.out).swap⟩
          | exact ⟨_, _, rfl, rfl, (pair2 w6 false B A _ _ rfl rfl HB.out HA.out).swap⟩
          | exact ⟨_, _, rfl, rfl, (pair3 w6 false B A _ _ rfl rfl HB.out HA.out).swap⟩
    case rest =>
      obtain ⟨ga, gc, rfl, rfl, HP⟩ := hcut
      obtain ⟨b8, hb8⟩ : ∃ b8 : Nat, b8 = bit / 8 := ⟨_, rfl⟩
      obtain ⟨i, hi⟩ : ∃ i : Nat, i = b8 % 4 := ⟨_, rfl⟩
      have hiq : i < cnt false := by rw [hi]; exact Nat.mod_lt _ (by decide)
      have hi16 : i < 16 := Nat.lt_of_lt_of_le hiq (cnt_le false).2
      obtain ⟨x, hx⟩ : ∃ x, A[i]? = some x := ⟨A[i]'(by omega), List.getElem?_eq_getElem _⟩
      obtain ⟨y, hy⟩ : ∃ y, B[i]? = some y := ⟨B[i]'(by omega), List.getElem?_eq_getElem _⟩
      obtain ⟨x', hx', ex⟩ := flipped x j HJ8.out
      obtain ⟨y', hy', ey⟩ := flipped y j HJ8.out
      rw [← HFL.out] at ex ey
      have HO3 : Hid (OpensTo false (A.set i x') B N 0 0 5 []) := Lib.hid (by
        rw [HN.out]; exact opens_not (by simpa using hA') hB' (back_src false A B sp dp bs ms hA' hB' hsp hdp hl i j x x' HJ8.out hiq hx hx'))
      have HO4 : Hid (OpensTo false A (B.set i y') N 0 0 5 []) := Lib.hid (by
        rw [HN.out]; exact opens_not hA' (by simpa using hB') (back_dst false A B sp dp bs ms hA' hB' hsp hdp hl i j y y' HJ8.out hiq hy hy'))
      have HX := Lib.hid hx
      have HY2 := Lib.hid hy
      have e1 : (bit : Int) / 8 = (b8 : Int) := by rw [hb8]; omega
      have e1' : (bit : Int).tdiv 8 = (b8 : Int) := by rw [Int.tdiv_eq_ediv_of_nonneg (by omega)]; exact e1
      have e2 : IntKind.i64.wrap (b8 : Int) = (b8 : Int) := IntWalk.i64_in _ (by omega)
      have e3 : (b8 : Int) % 4 = (i : Int) := by rw [hi]; omega
      have e3' : (b8 : Int).tmod 4 = (i : Int) := by rw [Int.tmod_eq_emod_of_nonneg (by omega)]; exact e3
      have b0 : (0 : Int) ≤ (i : Int) := by omega
      have b1 : (i : Int) < 16 := by omega
      have HB8 := Lib.hid hb8
      have ca : wc.cell? ⟨ga, 1 + i, none⟩ = some (.int .u8 (x.toNat : Int)) := by
        have := HP.out.2.2.2.2.1 (i + 1) (byteV x) (by rw [adr_list, List.getElem?_cons_succ, List.getElem?_map, HX.out]; rfl)
        rwa [show 0 + (i + 1) = 1 + i by omega] at this
      have fa : wc.frozen? ⟨ga, 1 + i, none⟩ = false := by
        have := (free_spec.1 HP.out.2.2.2.2.2.2.1 (1 + i) (by omega)).2
        rwa [Nat.zero_add] at this
      have HI := Lib.hid (And.intro hi16 hiq)
      clear hb8 hi hiq hx hy hx' hy' hi16 hA' hB'
      go_wp2_with fail
      go_region
      have p8 : Pair w6 (wc.setCell ⟨ga, 1 + i, none⟩ (.int .u8 (x'.toNat : Int))).drew false (A.set i x') B ga gc := pair_put HP.out i x' (by have := HA.out; have := HI.out; omega)
      have HP8 := Lib.hid p8
      clear p8 HP ca fa
      generalize (wc.setCell ⟨ga, 1 + i, none⟩ (.int .u8 (x'.toNat : Int))).drew = w8 at HP8 ⊢
      have ca : w8.cell? ⟨gc, 1 + i, none⟩ = some (.int .u8 (y.toNat : Int)) := by
        have := HP8.out.2.2.2.2.2.1 (i + 1) (byteV y) (by rw [adr_list, List.getElem?_cons_succ, List.getElem?_map, HY2.out]; rfl)
        rwa [show 0 + (i + 1) = 1 + i by omega] at this
      have fa : w8.frozen? ⟨gc, 1 + i, none⟩ = false := by
        have := (free_spec.1 HP8.out.2.2.2.2.2.2.2 (1 + i) (by have := HI.out; omega)).2
        rwa [Nat.zero_add] at this
      go_wp2_with fail
      go_region
      have p9 : Pair w6 (w8.setCell ⟨gc, 1 + i, none⟩ (.int .u8 (y'.toNat : Int))).drew false (A.set i x') (B.set i y') ga gc := (pair_put HP8.out.swap i y' (by have := HB.out; have := HI.out; omega)).swap
      have HP9 := Lib.hid p9
      clear p9 HP8 ca fa
      generalize (w8.setCell ⟨gc, 1 + i, none⟩ (.int .u8 (y'.toNat : Int))).drew = w9 at HP9 ⊢
      have HS9 : Hid (EndsSt w w9 false false A B sp dp (.slice a bs.length c) bs) := HS6.out.below HP9.out.1
      have ON9 : Hid (Own w9 w2.heap.size (.slice (some ⟨g4, 0, none⟩) N.length c4) N) := ON6.out.below HP9.out.1
      clear HS6 ON6
      go_wp2_with (first | ((with_reducible refine wpList_load54 ga 0 false (A.set i x') ?_ ?_ ?_ ?_); rfl; exact HP9.out.2.2.2.2.1; (rw [List.length_set]; exact HA.out)) | ((with_reducible refine wpList_load54 (w.heap.size + 1) 0 false B ?_ ?_ ?_ ?_); rfl; exact HS9.out.2.2.1.adr; exact HB.out) | fail)
      refine (HO3.out _ _ ON9.out.bs).mono ?_
      rintro e w10 ⟨a10, rfl, hb10, bel10⟩
      have HS10 : Hid (EndsSt w w10 false false A B sp dp (.slice a bs.length c) bs) := HS9.out.below bel10
      have ON10 : Hid (Own w10 w2.heap.size (.slice (some ⟨g4, 0, none⟩) N.length c4) N) := ON9.out.below bel10
      have HPB : Hid (AdrAt w10 gc 0 false (B.set i y')) := Lib.hid (HP9.out.2.2.2.2.2.1.below bel10)
      clear hb10 bel10 HS9 ON9 HO3 HP9
      go_wp2_with (first | ((with_reducible refine wpList_load54 w.heap.size 0 false A ?_ ?_ ?_ ?_); rfl; exact HS10.out.2.1.adr; exact HA.out) | ((with_reducible refine wpList_load54 gc 0 false (B.set i y') ?_ ?_ ?_ ?_); rfl; exact HPB.out; (rw [List.length_set]; exact HB.out)) | fail)
      refine (HO4.out _ _ ON10.out.bs).mono ?_
      rintro e w11 ⟨a11, rfl, hb11, bel11⟩
      have HS11 : Hid (EndsSt w w11 false false A B sp dp (.slice a bs.length c) bs) := HS10.out.below bel11
      have ON11 : Hid (Own w11 w2.heap.size (.slice (some ⟨g4, 0, none⟩) N.length c4) N) := ON10.out.below bel11
      clear hb11 bel11 HS10 ON10 HO4 HPB
      obtain ⟨k0, hk0⟩ : ∃ k0 : Nat, k0 = b8 % (Y.length - 4) := ⟨_, rfl⟩
      have hk1 : k0 < Y.length - 4 := by rw [hk0]; exact Nat.mod_lt _ (by rw [HYl.out]; omega)
      have ek : (b8 : Int) % ((Y.length : Int) - 4) = (k0 : Int) := by
        have := HYl.out
        rw [hk0, show (Y.length : Int) - 4 = ((Y.length - 4 : Nat) : Int) by omega]; simp
      have hYb : 8 ≤ Y.length ∧ Y.length ≤ 308 := by have := HYl.out; omega
      obtain ⟨hY8, hY308⟩ := hYb
      have hkk : (k0 ≤ 3 ∧ ∃ k, k = k0) ∨ (3 < k0 ∧ ∃ k, k = k0 + 4) := by
        by_cases h : k0 ≤ 3
        · exact .inl ⟨h, _, rfl⟩
        · exact .inr ⟨by omega, _, rfl⟩
      clear hk0 e1' e3 e3'
      rcases hkk with ⟨hk3, k, hk⟩ | ⟨hk3, k, hk⟩
      all_goals
        have hkY : k < 8 + bs.length := by have := HYl.out; omega
        have hk4 : k < 4 ∨ 8 ≤ k := by omega
        obtain ⟨u, hu⟩ : ∃ u, (udpB false A B sp dp bs)[k]? = some u := ⟨(udpB false A B sp dp bs)[k]'(by rw [udpB_len]; exact hkY), List.getElem?_eq_getElem _⟩
        have huN : N[k]? = some u := by rw [HN.out, List.getElem?_append_left (by rw [udpB_len]; exact hkY)]; exact hu
        obtain ⟨u', hu', eu⟩ := flipped u j HJ8.out
        rw [← HFL.out] at eu
        have HO5 : Hid (OpensTo false A B (N.set k u') 0 0 5 []) := Lib.hid (by
          rw [HN.out]; exact opens_not HA.out HB.out (back_byte false A B sp dp bs ms HA.out HB.out hsp hdp hl k j u u' HJ8.out hkY hk4 hu hu'))
        have cN := own_cell ON11.out huN
        have fN := own_free ON11.out k
        have bN : (k : Int) < (N.length : Int) := by have := HNl.out; omega
        have bN0 : (0 : Int) ≤ (k : Int) := by omega
        have ek2 : k0 + 4 = k ∨ k0 = k := by omega
        have hstore := own_store' ON11.out k u'
        rw [List.length_set] at hstore
        have HST := Lib.hid hstore
        have bst : Hid (Below w.heap.size w (w11.setCell ⟨g4, k, none⟩ (.int .u8 (u'.toNat : Int)))) := Lib.hid (HS11.out.1.setCell HW2.out _)
        have HE2 : Hid (EndAt (w11.setCell ⟨g4, k, none⟩ (.int .u8 (u'.toNat : Int))) w.heap.size false A sp ∧ EndAt (w11.setCell ⟨g4, k, none⟩ (.int .u8 (u'.toNat : Int))) (w.heap.size + 1) false B dp) :=
          Lib.hid ⟨(heap_setCell_far w11 _ _ (by have := HW3.out; have := HG4.out; show w.heap.size ≠ g4; omega)).trans HS11.out.2.1, (heap_setCell_far w11 _ _ (by have := HW3.out; have := HG4.out; show w.heap.size + 1 ≠ g4; omega)).trans HS11.out.2.2.1⟩
        clear hu huN hu' hkY hk4 hstore hY8 hY308
        subst hk
        go_wp2_with (first | ((with_reducible refine wpList_load54 w.heap.size 0 false A ?_ ?_ ?_ ?_); rfl; exact HE2.out.1.adr; exact HA.out) | ((with_reducible refine wpList_load54 (w.heap.size + 1) 0 false B ?_ ?_ ?_ ?_); rfl; exact HE2.out.2.adr; exact HB.out) | fail)
        refine (HO5.out _ _ HST.out.bs).mono ?_
        rintro e w12 ⟨a12, rfl, hb12, bel12⟩
        have HFIN : Hid (Below w.heap.size w w12) := Lib.hid (bst.out.trans (bel12.mono bst.out.size))
        clear hb12 bel12 bst HE2 HST HO5 cN fN bN bN0 ek2
        go_wp2_with fail
        go_ret
        exact ⟨rfl, HFIN.out⟩
  · go_upto_region 19 with fail
    simp only [e25]
    clear e25
    have hA' := HA.out
    have hB' := HB.out
    go_cut [26, 27] (fun s26 s27 wx => ∃ ga gc : Nat, s26 = .pointer (some ⟨ga, 0, none⟩) ∧ s27 = .pointer (some ⟨gc, 0, none⟩) ∧ Hid (Pair w6 wx true A B ga gc))
    case first =>
      go_region_held3 (fun w' => has w' w.heap.size 0 17 = true ∧ rd w' w.heap.size 0 17 = adrC true A ∧ has w' (w.heap.size + 1) 0 17 = true ∧ rd w' (w.heap.size + 1) 0 17 = adrC true B ∧ Below w6.heap.size w6 w')
        ((go_split_ands; first
          | exact endsLd HS6.out HA.out HB.out (Below.refl _ _).drew
          | exact endsLd HS6.out HA.out HB.out (Below.alloc (by assumption) (Below.size (by assumption)) _)
          | exact endsLd HS6.out HA.out HB.out (below_sets (by omega) _ _ (by assumption))
          | fail))
        (fail)
      all_goals
        go_wp2_with fail
        go_meet
      all_goals
        first
          | exact ⟨_, _, rfl, rfl, pair1 w6 true A B _ _ rfl rfl HA.out HB.out⟩
          | exact ⟨_, _, rfl, rfl, pair2 w6 true A B _ _ rfl rfl HA.out HB.out⟩
          | exact ⟨_, _, rfl, rfl, pair3 w6 true A B _ _ rfl rfl HA.out HB.out⟩
          | exact ⟨_, _, rfl, rfl, (pair1 w6 true B A _ _ rfl rfl HB.out HA.out).swap⟩
          | exact ⟨_, _, rfl, rfl, (pair2 w6 true B A _ _ rfl rfl HB.out HA.out).swap⟩
          | exact ⟨_, _, rfl, rfl, (pair3 w6 true B A _ _ rfl rfl HB.out HA.out).swap⟩
    case rest =>
      obtain ⟨ga, gc, rfl, rfl, HP⟩ := hcut
      obtain ⟨b8, hb8⟩ : ∃ b8 : Nat, b8 = bit / 8 := ⟨_, rfl⟩
      obtain ⟨i, hi⟩ : ∃ i : Nat, i = b8 % 16 := ⟨_, rfl⟩
      have hiq : i < cnt true := by rw [hi]; exact Nat.mod_lt _ (by decide)
      have hi16 : i < 16 := Nat.lt_of_lt_of_le hiq (cnt_le true).2
      obtain ⟨x, hx⟩ : ∃ x, A[i]? = some x := ⟨A[i]'(by omega), List.getElem?_eq_getElem _⟩
      obtain ⟨y, hy⟩ : ∃ y, B[i]? = some y := ⟨B[i]'(by omega), List.getElem?_eq_getElem _⟩
      obtain ⟨x', hx', ex⟩ := flipped x j HJ8.out
      obtain ⟨y', hy', ey⟩ := flipped y j HJ8.out
      rw [← HFL.out] at ex ey
      have HO3 : Hid (OpensTo true (A.set i x') B N 0 0 5 []) := Lib.hid (by
        rw [HN.out]; exact opens_not (by simpa using hA') hB' (back_src true A B sp dp bs ms hA' hB' hsp hdp hl i j x x' HJ8.out hiq hx hx'))
      have HO4 : Hid (OpensTo true A (B.set i y') N 0 0 5 []) := Lib.hid (by
        rw [HN.out]; exact opens_not hA' (by simpa using hB') (back_dst true A B sp dp bs ms hA' hB' hsp hdp hl i j y y' HJ8.out hiq hy hy'))
      have HX := Lib.hid hx
      have HY2 := Lib.hid hy
      have e1 : (bit : Int) / 8 = (b8 : Int) := by rw [hb8]; omega
      have e1' : (bit : Int).tdiv 8 = (b8 : Int) := by rw [Int.tdiv_eq_ediv_of_nonneg (by omega)]; exact e1
      have e2 : IntKind.i64.wrap (b8 : Int) = (b8 : Int) := IntWalk.i64_in _ (by omega)
      have e3 : (b8 : Int) % 16 = (i : Int) := by rw [hi]; omega
      have e3' : (b8 : Int).tmod 16 = (i : Int) := by rw [Int.tmod_eq_emod_of_nonneg (by omega)]; exact e3
      have b0 : (0 : Int) ≤ (i : Int) := by omega
      have b1 : (i : Int) < 16 := by omega
      have HB8 := Lib.hid hb8
      have ca : wc.cell? ⟨ga, 1 + i, none⟩ = some (.int .u8 (x.toNat : Int)) := by
        have := HP.out.2.2.2.2.1 (i + 1) (byteV x) (by rw [adr_list, List.getElem?_cons_succ, List.getElem?_map, HX.out]; rfl)
        rwa [show 0 + (i + 1) = 1 + i by omega] at this
      have fa : wc.frozen? ⟨ga, 1 + i, none⟩ = false := by
        have := (free_spec.1 HP.out.2.2.2.2.2.2.1 (1 + i) (by omega)).2
        rwa [Nat.zero_add] at this
      have HI := Lib.hid (And.intro hi16 hiq)
      clear hb8 hi hiq hx hy hx' hy' hi16 hA' hB'
      go_wp2_with fail
      go_region
      have p8 : Pair w6 (wc.setCell ⟨ga, 1 + i, none⟩ (.int .u8 (x'.toNat : Int))).drew true (A.set i x') B ga gc := pair_put HP.out i x' (by have := HA.out; have := HI.out; omega)
      have HP8 := Lib.hid p8
      clear p8 HP ca fa
      generalize (wc.setCell ⟨ga, 1 + i, none⟩ (.int .u8 (x'.toNat : Int))).drew = w8 at HP8 ⊢
      have ca : w8.cell? ⟨gc, 1 + i, none⟩ = some (.int .u8 (y.toNat : Int)) := by
        have := HP8.out.2.2.2.2.2.1 (i + 1) (byteV y) (by rw [adr_list, List.getElem?_cons_succ, List.getElem?_map, HY2.out]; rfl)
        rwa [show 0 + (i + 1) = 1 + i by omega] at this
      have fa : w8.frozen? ⟨gc, 1 + i, none⟩ = false := by
        have := (free_spec.1 HP8.out.2.2.2.2.2.2.2 (1 + i) (by have := HI.out; omega)).2
        rwa [Nat.zero_add] at this
      go_wp2_with fail
      go_region
      have p9 : Pair w6 (w8.setCell ⟨gc, 1 + i, none⟩ (.int .u8 (y'.toNat : Int))).drew true (A.set i x') (B.set i y') ga gc := (pair_put HP8.out.swap i y' (by have := HB.out; have := HI.out; omega)).swap
      have HP9 := Lib.hid p9
      clear p9 HP8 ca fa
      generalize (w8.setCell ⟨gc, 1 + i, none⟩ (.int .u8 (y'.toNat : Int))).drew = w9 at HP9 ⊢
      have HS9 : Hid (EndsSt w w9 true true A B sp dp (.slice a bs.length c) bs) := HS6.out.below HP9.out.1
      have ON9 : Hid (Own w9 w2.heap.size (.slice (some ⟨g4, 0, none⟩) N.length c4) N) := ON6.out.below HP9.out.1
      clear HS6 ON6
      go_wp2_with (first | ((with_reducible refine wpList_load54 ga 0 true (A.set i x') ?_ ?_ ?_ ?_); rfl; exact HP9.out.2.2.2.2.1; (rw [List.length_set]; exact HA.out)) | ((with_reducible refine wpList_load54 (w.heap.size + 1) 0 true B ?_ ?_ ?_ ?_); rfl; exact HS9.out.2.2.1.adr; exact HB.out) | fail)
      refine (HO3.out _ _ ON9.out.bs).mono ?_
      rintro e w10 ⟨a10, rfl, hb10, bel10⟩
      have HS10 : Hid (EndsSt w w10 true true A B sp dp (.slice a bs.length c) bs) := HS9.out.below bel10
      have ON10 : Hid (Own w10 w2.heap.size (.slice (some ⟨g4, 0, none⟩) N.length c4) N) := ON9.out.below bel10
      have HPB : Hid (AdrAt w10 gc 0 true (B.set i y')) := Lib.hid (HP9.out.2.2.2.2.2.1.below bel10)
      clear hb10 bel10 HS9 ON9 HO3 HP9
      go_wp2_with (first | ((with_reducible refine wpList_load54 w.heap.size 0 true A ?_ ?_ ?_ ?_); rfl; exact HS10.out.2.1.adr; exact HA.out) | ((with_reducible refine wpList_load54 gc 0 true (B.set i y') ?_ ?_ ?_ ?_); rfl; exact HPB.out; (rw [List.length_set]; exact HB.out)) | fail)
      refine (HO4.out _ _ ON10.out.bs).mono ?_
      rintro e w11 ⟨a11, rfl, hb11, bel11⟩
      have HS11 : Hid (EndsSt w w11 true true A B sp dp (.slice a bs.length c) bs) := HS10.out.below bel11
      have ON11 : Hid (Own w11 w2.heap.size (.slice (some ⟨g4, 0, none⟩) N.length c4) N) := ON10.out.below bel11
      clear hb11 bel11 HS10 ON10 HO4 HPB
      obtain ⟨k0, hk0⟩ : ∃ k0 : Nat, k0 = b8 % (Y.length - 4) := ⟨_, rfl⟩
      have hk1 : k0 < Y.length - 4 := by rw [hk0]; exact Nat.mod_lt _ (by rw [HYl.out]; omega)
      have ek : (b8 : Int) % ((Y.length : Int) - 4) = (k0 : Int) := by
        have := HYl.out
        rw [hk0, show (Y.length : Int) - 4 = ((Y.length - 4 : Nat) : Int) by omega]; simp
      have hYb : 8 ≤ Y.length ∧ Y.length ≤ 308 := by have := HYl.out; omega
      obtain ⟨hY8, hY308⟩ := hYb
      have hkk : (k0 ≤ 3 ∧ ∃ k, k = k0) ∨ (3 < k0 ∧ ∃ k, k = k0 + 4) := by
        by_cases h : k0 ≤ 3
        · exact .inl ⟨h, _, rfl⟩
        · exact .inr ⟨by omega, _, rfl⟩
      clear hk0 e1' e3 e3'
      rcases hkk with ⟨hk3, k, hk⟩ | ⟨hk3, k, hk⟩
      all_goals
        have hkY : k < 8 + bs.length := by have := HYl.out; omega
        have hk4 : k < 4 ∨ 8 ≤ k := by omega
        obtain ⟨u, hu⟩ : ∃ u, (udpB true A B sp dp bs)[k]? = some u := ⟨(udpB true A B sp dp bs)[k]'(by rw [udpB_len]; exact hkY), List.getElem?_eq_getElem _⟩
        have huN : N[k]? = some u := by rw [HN.out, List.getElem?_append_left (by rw [udpB_len]; exact hkY)]; exact hu
        obtain ⟨u', hu', eu⟩ := flipped u j HJ8.out
        rw [← HFL.out] at eu
        have HO5 : Hid (OpensTo true A B (N.set k u') 0 0 5 []) := Lib.hid (by
          rw [HN.out]; exact opens_not HA.out HB.out (back_byte true A B sp dp bs ms HA.out HB.out hsp hdp hl k j u u' HJ8.out hkY hk4 hu hu'))
        have cN := own_cell ON11.out huN
        have fN := own_free ON11.out k
        have bN : (k : Int) < (N.length : Int) := by have := HNl.out; omega
        have bN0 : (0 : Int) ≤ (k : Int) := by omega
        have ek2 : k0 + 4 = k ∨ k0 = k := by omega
        have hstore := own_store' ON11.out k u'
        rw [List.length_set] at hstore
        have HST := Lib.hid hstore
        have bst : Hid (Below w.heap.size w (w11.setCell ⟨g4, k, none⟩ (.int .u8 (u'.toNat : Int)))) := Lib.hid (HS11.out.1.setCell HW2.out _)
        have HE2 : Hid (EndAt (w11.setCell ⟨g4, k, none⟩ (.int .u8 (u'.toNat : Int))) w.heap.size true A sp ∧ EndAt (w11.setCell ⟨g4, k, none⟩ (.int .u8 (u'.toNat : Int))) (w.heap.size + 1) true B dp) :=
          Lib.hid ⟨(heap_setCell_far w11 _ _ (by have := HW3.out; have := HG4.out; show w.heap.size ≠ g4; omega)).trans HS11.out.2.1, (heap_setCell_far w11 _ _ (by have := HW3.out; have := HG4.out; show w.heap.size + 1 ≠ g4; omega)).trans HS11.out.2.2.1⟩
        clear hu huN hu' hkY hk4 hstore hY8 hY308
        subst hk
        go_wp2_with (first | ((with_reducible refine wpList_load54 w.heap.size 0 true A ?_ ?_ ?_ ?_); rfl; exact HE2.out.1.adr; exact HA.out) | ((with_reducible refine wpList_load54 (w.heap.size + 1) 0 true B ?_ ?_ ?_ ?_); rfl; exact HE2.out.2.adr; exact HB.out) | fail)
        refine (HO5.out _ _ HST.out.bs).mono ?_
        rintro e w12 ⟨a12, rfl, hb12, bel12⟩
        have HFIN : Hid (Below w.heap.size w w12) := Lib.hid (bst.out.trans (bel12.mono bst.out.size))
        clear hb12 bel12 bst HE2 HST HO5 cN fN bN bN0 ek2
        go_wp2_with fail
        go_ret
        exact ⟨rfl, HFIN.out⟩

theorem law_uback' (w : World) (s t : Bool) (A B : List UInt8) (sp dp : Nat) (v vm : Value) (cut bit : Int) (hA : A.length = 16) (hB : B.length = 16) (hsp : sp < 65536) (hdp : dp < 65536) (hb : ∃ bs, Bs w v bs) (hm : ∃ ms, Bs w vm ms)
    (F4 : (Lit.int .u16 cut).wf = true) (F5 : (Lit.int .u16 bit).wf = true) :
    Calls Try.prog 9 #[.agg (endC s A sp), .agg (endC t B dp), v, vm, .int .u16 cut, .int .u16 bit] w fun e w' => e = .returned (.bool true) ∧ Below w.heap.size w w' := by
  obtain ⟨bs, hb⟩ := hb
  obtain ⟨ms, hm⟩ := hm
  have hx : 0 ≤ cut ∧ cut ≤ 65535 := by simpa [Lit.wf, IntKind.min, IntKind.max, IntKind.signed, IntKind.bits] using F4
  have hy : 0 ≤ bit ∧ bit ≤ 65535 := by simpa [Lit.wf, IntKind.min, IntKind.max, IntKind.signed, IntKind.bits] using F5
  obtain ⟨cut, rfl⟩ := Int.eq_ofNat_of_zero_le hx.1
  obtain ⟨bit, rfl⟩ := Int.eq_ofNat_of_zero_le hy.1
  by_cases hl : bs.length ≤ 300 ∧ ms.length ≤ 300
  · by_cases hst : s = t
    · subst hst
      exact law_uback w s A B sp dp v vm bs ms cut bit hA hB hb hm hl.1 hl.2 hsp hdp (by omega) (by omega)
    · exact law_uback_other w s t A B sp dp v vm bs ms cut bit hA hB hb hm hl.1 hl.2 hsp hdp hst
  · exact law_uback_great w s t A B sp dp v vm bs ms cut bit hb hm (by omega)
end Go.Proofs.Ytnckmaieghlpmaa
