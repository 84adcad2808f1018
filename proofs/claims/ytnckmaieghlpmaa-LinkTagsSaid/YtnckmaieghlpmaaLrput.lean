/-
  The walk of horologeref14.Put.
-/
import Derived.Test.YtnckmaieghlpmaaLput2
namespace Go.Proofs.Ytnckmaieghlpmaa
open Go.RowKit
set_option linter.unusedVariables false

theorem make12 (w : World) : (Instr.makeSlice 24 (.int .i64 12) (.int .i64 12)).run Try.prog w = .ok (.slice (some ⟨w.heap.size, 0, none⟩) 12 12) (w.alloc (.cells #[.int .u8 0, .int .u8 0, .int .u8 0, .int .u8 0, .int .u8 0, .int .u8 0, .int .u8 0, .int .u8 0, .int .u8 0, .int .u8 0, .int .u8 0, .int .u8 0] 5)) := by kernel_rfl
theorem own_lit2 (w : World) (o : Obj) (bs : List UInt8) (cs : Array Value) (base : Nat) (hcs : cs.toList = bs.map byteV) (hb : base ≤ w.heap.size) (hl : bs.length ≤ maxLen) :
    Own ((w.alloc o).alloc (.cells cs 5)) base (.slice (some ⟨w.heap.size + 1, 0, none⟩) bs.length bs.length) bs := by
  have := own_lit (w.alloc o) bs cs base hcs (by rw [size_alloc]; omega) hl
  rwa [size_alloc] at this
attribute [local go_sem] make12
def LrSt (w wr : World) (l : Nat) (ts : List Nat) (k : Nat) (a : Option Addr) (c : Nat) (xs : List UInt8) : Prop :=
  Own wr w.heap.size (.slice a xs.length c) xs ∧ Below w.heap.size w wr ∧ xs = lkHead l ++ tagsTo ts k

set_option maxRecDepth 100000 in
set_option maxHeartbeats 4000000 in
theorem lrput_sll (w : World) (v : Int) (vt vb : Value) (ts : List Nat) (bs : List UInt8) (hv : v = 4 ∨ v = 6) (ht : Ns w vt ts) (ht0 : ts.length = 0) (hb : Bs w vb bs) (hl : bs.length ≤ 4294967296) :
    Calls Try.prog 46 #[.int .u16 113, .int .i64 v, vt, vb] w (LPut w (lkFrame 113 v ts bs, 0)) := by
  have HB := Lib.hid hb
  obtain ⟨at', ct, rfl, htl, htm, htn, htb⟩ := ht
  obtain ⟨a, c, rfl, hl1, hl2, hat⟩ := hb
  have HT := Lib.hid htn
  have HTB := Lib.hid htb
  clear hat htn htb
  unfold maxLen at hl2 htm
  obtain ⟨X, hX⟩ : ∃ X, X = lkFrame 113 v ts bs := ⟨_, rfl⟩
  rw [← hX]
  have HX := Lib.hid hX
  have hts : ts.length ≤ 2 := by omega
  have t0 : ¬ (2 : Int) < (ts.length : Int) := by omega
  clear hX
  have z1 : lkHead 1 = [0, 0, 0, 0, 0, 0, 0, 0, 0, 0, 0, 0] := rfl
  have z2 : lkHead 113 = [0, 0, 0, 1, 0, 6, 0, 0, 0, 0, 0, 0, 0, 0] := rfl
  have HZ1 := Lib.hid z1
  have HZ2 := Lib.hid z2
  clear z1 z2
  have t1 : ¬ (0 : Int) < (ts.length : Int) := by omega
  have HT0 := Lib.hid ht0
  clear ht0
  rcases ver_cases hv with b4 | ⟨b4, b6⟩
  all_goals
    have HV := Lib.hid hv
    clear hv
    go_enter Try.func46, Try.ntmps46
    go_wp2_with fail
    go_loopw [10, 11] (fun s10 s11 wr => ∃ (k : Nat) (a' : Option Addr) (c' : Nat) (xs : List UInt8), k ≤ ts.length ∧ s10 = .slice a' xs.length c' ∧ s11 = .int .i64 k ∧ xs.length ≤ 64 ∧ Hid (LrSt w wr 113 ts k a' c' xs)) (fun _ s11 _ => ts.length - (intOf s11).toNat)
    case atStart => exact ⟨0, _, _, [0, 0, 0, 1, 0, 6, 0, 0, 0, 0, 0, 0, 0, 0], Nat.zero_le _, rfl, rfl, by decide, own_lit2 w _ [0, 0, 0, 1, 0, 6, 0, 0, 0, 0, 0, 0, 0, 0] _ w.heap.size rfl (Nat.le_refl _) (by decide), ((Below.refl _ _).alloc (Nat.le_refl _) _).alloc (by simp) _, rfl⟩
    case round =>
      obtain ⟨k, a', c', xs, hk, rfl, rfl, hxs, HR⟩ := hrel
      by_cases hlt : k < ts.length
      · have := HT0.out; omega
      · have HKE : Hid (k = ts.length) := Lib.hid (by omega)
        have i1 : ¬ (k : Int) < (ts.length : Int) := by omega
        clear hlt
        have hver : (v == 4) = true ∧ lkKind v = [8, 0] ∨ (v == 4) = false ∧ lkKind v = [134, 221] := by
          rcases HV.out with rfl | rfl
          · exact .inl ⟨rfl, by decide⟩
          · exact .inr ⟨rfl, by decide⟩
        rcases hver with ⟨b9, hK⟩ | ⟨b9, hK⟩
        · have HK := Lib.hid hK
          clear hK
          have tok1 : True := trivial
          have tok2 : True := trivial
          go_wp2_with (first
            | (at_builtin; have _t := tok1; refine wpList_app' rfl _ _ rfl w.heap.size _ xs rfl (HR.out.1.alloc _) _ [8, 0] rfl (bs_new wr [8, 0] _ 5 _ rfl (by decide)) (by simp; omega) (by have := HR.out.2.1.size; simp; omega) ?_; intro Z2 a2 c2 z2 E2 O2 L2 N2 hc2; have LL2 : Hid (Below w.heap.size w z2) := Lib.hid ((HR.out.2.1.alloc HR.out.2.1.size _).trans L2.out); clear tok1)
            | (at_builtin; have _t := tok2; refine wpList_app' rfl _ _ rfl w.heap.size _ Z2 rfl O2.out _ bs rfl (HB.out.below LL2.out) (by have := N2.out; simp at this; omega) LL2.out.size ?_; intro Z3 a3 c3 z3 E3 O3 L3 N3 hc3; clear tok2)
            | fail)
          have hz : Z3 = X := by
            have q2 : Z2 = xs ++ [8, 0] := E2.out
            have q3 : Z3 = Z2 ++ bs := E3.out
            rw [q3, q2, HR.out.2.2, HX.out, ← HK.out, HKE.out]; simp [lkFrame]
          have HF := Lib.hid (lput_fin (w := w) (w' := z3) (X := X) (Z := Z3) (a := a3) (c := c3) hz rfl O3.out.bs (LL2.out.trans L3.out))
          exact bodyPost_ret (v := .tuple #[.slice a3 Z3.length c3, .int .i64 0]) (by simp [results, Try.results46]) rfl HF.out
        · have HK := Lib.hid hK
          clear hK
          have tok1 : True := trivial
          have tok2 : True := trivial
          go_wp2_with (first
            | (at_builtin; have _t := tok1; refine wpList_app' rfl _ _ rfl w.heap.size _ xs rfl (HR.out.1.alloc _) _ [134, 221] rfl (bs_new wr [134, 221] _ 5 _ rfl (by decide)) (by simp; omega) (by have := HR.out.2.1.size; simp; omega) ?_; intro Z2 a2 c2 z2 E2 O2 L2 N2 hc2; have LL2 : Hid (Below w.heap.size w z2) := Lib.hid ((HR.out.2.1.alloc HR.out.2.1.size _).trans L2.out); clear tok1)
            | (at_builtin; have _t := tok2; refine wpList_app' rfl _ _ rfl w.heap.size _ Z2 rfl O2.out _ bs rfl (HB.out.below LL2.out) (by have := N2.out; simp at this; omega) LL2.out.size ?_; intro Z3 a3 c3 z3 E3 O3 L3 N3 hc3; clear tok2)
            | fail)
          have hz : Z3 = X := by
            have q2 : Z2 = xs ++ [134, 221] := E2.out
            have q3 : Z3 = Z2 ++ bs := E3.out
            rw [q3, q2, HR.out.2.2, HX.out, ← HK.out, HKE.out]; simp [lkFrame]
          have HF := Lib.hid (lput_fin (w := w) (w' := z3) (X := X) (Z := Z3) (a := a3) (c := c3) hz rfl O3.out.bs (LL2.out.trans L3.out))
          exact bodyPost_ret (v := .tuple #[.slice a3 Z3.length c3, .int .i64 0]) (by simp [results, Try.results46]) rfl HF.out

set_option maxRecDepth 100000 in
set_option maxHeartbeats 4000000 in
theorem lrput_eth0 (w : World) (v : Int) (vt vb : Value) (ts : List Nat) (bs : List UInt8) (hv : v = 4 ∨ v = 6) (ht : Ns w vt ts) (ht0 : ts.length = 0) (hb : Bs w vb bs) (hl : bs.length ≤ 4294967296) :
    Calls Try.prog 46 #[.int .u16 1, .int .i64 v, vt, vb] w (LPut w (lkFrame 1 v ts bs, 0)) := by
  have HB := Lib.hid hb
  obtain ⟨at', ct, rfl, htl, htm, htn, htb⟩ := ht
  obtain ⟨a, c, rfl, hl1, hl2, hat⟩ := hb
  have HT := Lib.hid htn
  have HTB := Lib.hid htb
  clear hat htn htb
  unfold maxLen at hl2 htm
  obtain ⟨X, hX⟩ : ∃ X, X = lkFrame 1 v ts bs := ⟨_, rfl⟩
  rw [← hX]
  have HX := Lib.hid hX
  have hts : ts.length ≤ 2 := by omega
  have t0 : ¬ (2 : Int) < (ts.length : Int) := by omega
  clear hX
  have z1 : lkHead 1 = [0, 0, 0, 0, 0, 0, 0, 0, 0, 0, 0, 0] := rfl
  have z2 : lkHead 113 = [0, 0, 0, 1, 0, 6, 0, 0, 0, 0, 0, 0, 0, 0] := rfl
  have HZ1 := Lib.hid z1
  have HZ2 := Lib.hid z2
  clear z1 z2
  have t1 : ¬ (0 : Int) < (ts.length : Int) := by omega
  have HT0 := Lib.hid ht0
  clear ht0
  rcases ver_cases hv with b4 | ⟨b4, b6⟩
  all_goals
    have HV := Lib.hid hv
    clear hv
    go_enter Try.func46, Try.ntmps46
    go_wp2_with fail
    go_loopw [10, 11] (fun s10 s11 wr => ∃ (k : Nat) (a' : Option Addr) (c' : Nat) (xs : List UInt8), k ≤ ts.length ∧ s10 = .slice a' xs.length c' ∧ s11 = .int .i64 k ∧ xs.length ≤ 64 ∧ Hid (LrSt w wr 1 ts k a' c' xs)) (fun _ s11 _ => ts.length - (intOf s11).toNat)
    case atStart => exact ⟨0, _, _, [0, 0, 0, 0, 0, 0, 0, 0, 0, 0, 0, 0], Nat.zero_le _, rfl, rfl, by decide, own_lit w [0, 0, 0, 0, 0, 0, 0, 0, 0, 0, 0, 0] _ w.heap.size rfl (Nat.le_refl _) (by decide), (Below.refl _ _).alloc (Nat.le_refl _) _, rfl⟩
    case round =>
      obtain ⟨k, a', c', xs, hk, rfl, rfl, hxs, HR⟩ := hrel
      by_cases hlt : k < ts.length
      · have := HT0.out; omega
      · have HKE : Hid (k = ts.length) := Lib.hid (by omega)
        have i1 : ¬ (k : Int) < (ts.length : Int) := by omega
        clear hlt
        have hver : (v == 4) = true ∧ lkKind v = [8, 0] ∨ (v == 4) = false ∧ lkKind v = [134, 221] := by
          rcases HV.out with rfl | rfl
          · exact .inl ⟨rfl, by decide⟩
          · exact .inr ⟨rfl, by decide⟩
        rcases hver with ⟨b9, hK⟩ | ⟨b9, hK⟩
        · have HK := Lib.hid hK
          clear hK
          have tok1 : True := trivial
          have tok2 : True := trivial
          go_wp2_with (first
            | (at_builtin; have _t := tok1; refine wpList_app' rfl _ _ rfl w.heap.size _ xs rfl (HR.out.1.alloc _) _ [8, 0] rfl (bs_new wr [8, 0] _ 5 _ rfl (by decide)) (by simp; omega) (by have := HR.out.2.1.size; simp; omega) ?_; intro Z2 a2 c2 z2 E2 O2 L2 N2 hc2; have LL2 : Hid (Below w.heap.size w z2) := Lib.hid ((HR.out.2.1.alloc HR.out.2.1.size _).trans L2.out); clear tok1)
            | (at_builtin; have _t := tok2; refine wpList_app' rfl _ _ rfl w.heap.size _ Z2 rfl O2.out _ bs rfl (HB.out.below LL2.out) (by have := N2.out; simp at this; omega) LL2.out.size ?_; intro Z3 a3 c3 z3 E3 O3 L3 N3 hc3; clear tok2)
            | fail)
          have hz : Z3 = X := by
            have q2 : Z2 = xs ++ [8, 0] := E2.out
            have q3 : Z3 = Z2 ++ bs := E3.out
            rw [q3, q2, HR.out.2.2, HX.out, ← HK.out, HKE.out]; simp [lkFrame]
          have HF := Lib.hid (lput_fin (w := w) (w' := z3) (X := X) (Z := Z3) (a := a3) (c := c3) hz rfl O3.out.bs (LL2.out.trans L3.out))
          exact bodyPost_ret (v := .tuple #[.slice a3 Z3.length c3, .int .i64 0]) (by simp [results, Try.results46]) rfl HF.out
        · have HK := Lib.hid hK
          clear hK
          have tok1 : True := trivial
          have tok2 : True := trivial
          go_wp2_with (first
            | (at_builtin; have _t := tok1; refine wpList_app' rfl _ _ rfl w.heap.size _ xs rfl (HR.out.1.alloc _) _ [134, 221] rfl (bs_new wr [134, 221] _ 5 _ rfl (by decide)) (by simp; omega) (by have := HR.out.2.1.size; simp; omega) ?_; intro Z2 a2 c2 z2 E2 O2 L2 N2 hc2; have LL2 : Hid (Below w.heap.size w z2) := Lib.hid ((HR.out.2.1.alloc HR.out.2.1.size _).trans L2.out); clear tok1)
            | (at_builtin; have _t := tok2; refine wpList_app' rfl _ _ rfl w.heap.size _ Z2 rfl O2.out _ bs rfl (HB.out.below LL2.out) (by have := N2.out; simp at this; omega) LL2.out.size ?_; intro Z3 a3 c3 z3 E3 O3 L3 N3 hc3; clear tok2)
            | fail)
          have hz : Z3 = X := by
            have q2 : Z2 = xs ++ [134, 221] := E2.out
            have q3 : Z3 = Z2 ++ bs := E3.out
            rw [q3, q2, HR.out.2.2, HX.out, ← HK.out, HKE.out]; simp [lkFrame]
          have HF := Lib.hid (lput_fin (w := w) (w' := z3) (X := X) (Z := Z3) (a := a3) (c := c3) hz rfl O3.out.bs (LL2.out.trans L3.out))
          exact bodyPost_ret (v := .tuple #[.slice a3 Z3.length c3, .int .i64 0]) (by simp [results, Try.results46]) rfl HF.out

set_option maxRecDepth 100000 in
set_option maxHeartbeats 4000000 in
theorem lrput_eth (w : World) (v : Int) (vt vb : Value) (ts : List Nat) (bs : List UInt8) (hv : v = 4 ∨ v = 6) (ht : Ns w vt ts) (ht1 : 0 < ts.length) (ht2 : ts.length ≤ 2) (hb : Bs w vb bs) (hl : bs.length ≤ 4294967296) :
    Calls Try.prog 46 #[.int .u16 1, .int .i64 v, vt, vb] w (LPut w (lkFrame 1 v ts bs, 0)) := by
  have HB := Lib.hid hb
  obtain ⟨at', ct, rfl, htl, htm, htn, htb⟩ := ht
  obtain ⟨a, c, rfl, hl1, hl2, hat⟩ := hb
  have HT := Lib.hid htn
  have HTB := Lib.hid htb
  clear hat htn htb
  unfold maxLen at hl2 htm
  obtain ⟨X, hX⟩ : ∃ X, X = lkFrame 1 v ts bs := ⟨_, rfl⟩
  rw [← hX]
  have HX := Lib.hid hX
  have hts : ts.length ≤ 2 := by omega
  have t0 : ¬ (2 : Int) < (ts.length : Int) := by omega
  clear hX
  have z1 : lkHead 1 = [0, 0, 0, 0, 0, 0, 0, 0, 0, 0, 0, 0] := rfl
  have z2 : lkHead 113 = [0, 0, 0, 1, 0, 6, 0, 0, 0, 0, 0, 0, 0, 0] := rfl
  have HZ1 := Lib.hid z1
  have HZ2 := Lib.hid z2
  clear z1 z2
  have t1 : (0 : Int) < (ts.length : Int) := by omega
  rcases ver_cases hv with b4 | ⟨b4, b6⟩
  all_goals
    have HV := Lib.hid hv
    clear hv
    go_enter Try.func46, Try.ntmps46
    go_wp2_with fail
    go_loopw [10, 11] (fun s10 s11 wr => ∃ (k : Nat) (a' : Option Addr) (c' : Nat) (xs : List UInt8), k ≤ ts.length ∧ s10 = .slice a' xs.length c' ∧ s11 = .int .i64 k ∧ xs.length ≤ 64 ∧ Hid (LrSt w wr 1 ts k a' c' xs)) (fun _ s11 _ => ts.length - (intOf s11).toNat)
    case atStart => exact ⟨0, _, _, [0, 0, 0, 0, 0, 0, 0, 0, 0, 0, 0, 0], Nat.zero_le _, rfl, rfl, by decide, own_lit w [0, 0, 0, 0, 0, 0, 0, 0, 0, 0, 0, 0] _ w.heap.size rfl (Nat.le_refl _) (by decide), (Below.refl _ _).alloc (Nat.le_refl _) _, rfl⟩
    case round =>
      obtain ⟨k, a', c', xs, hk, rfl, rfl, hxs, HR⟩ := hrel
      by_cases hlt : k < ts.length
      · obtain ⟨bt, ot, he, hc⟩ := tags_cell HT.out HR.out.2.1 hlt
        subst he
        obtain ⟨T, hT⟩ : ∃ T, T = ts.getD k 0 := ⟨_, rfl⟩
        have hT16 : T < 65536 := by rw [hT]; exact HTB.out _ (by simp [List.getD, hlt])
        rw [← hT] at hc
        have HTT := Lib.hid hT
        have i0 : (0 : Int) ≤ (k : Int) := by omega
        have i1 : (k : Int) < (ts.length : Int) := by omega
        have g1 : IntKind.u64.wrap (T : Int) = (T : Int) := Go.wraps_u64 _ (by omega) (by omega)
        have HC : Hid (w.cell? ⟨bt, ot + k, none⟩ = some (.int .u16 (T : Int))) := Lib.hid (by
          obtain ⟨bt', ot', he', hc'⟩ := tags_cell HT.out (Below.refl _ w) hlt
          simp only [Option.some.injEq, Addr.mk.injEq, and_true] at he'
          obtain ⟨rfl, rfl⟩ := he'
          rw [hT]; exact hc')
        clear hT hc
        obtain ⟨NK, hNK⟩ : ∃ NK : Nat, NK = if k + 1 < ts.length then 34984 else 33024 := ⟨_, rfl⟩
        have HNK := Lib.hid hNK
        have hNK2 : NK < 65536 := by rw [hNK]; split <;> omega
        have hkk : (((ts.length : Int) == 2) = true ∧ ((k : Int) == 0) = true ∧ (NK : Int) = 34984) ∨ (((ts.length : Int) == 2) = true ∧ ((k : Int) == 0) = false ∧ (NK : Int) = 33024) ∨ (((ts.length : Int) == 2) = false ∧ (NK : Int) = 33024) := by
          by_cases h2 : ts.length = 2
          · by_cases h : k = 0
            · exact .inl ⟨by rw [beq_iff_eq]; omega, by rw [beq_iff_eq]; omega, by rw [hNK, if_pos (by omega)]; rfl⟩
            · exact .inr (.inl ⟨by rw [beq_iff_eq]; omega, eqb_ne (by omega), by rw [hNK, if_neg (by omega)]; rfl⟩)
          · exact .inr (.inr ⟨eqb_ne (by omega), by rw [hNK, if_neg (by omega)]; rfl⟩)
        clear hNK
        rcases hkk with ⟨b7, b8, hNI⟩ | ⟨b7, b8, hNI⟩ | ⟨b7, hNI⟩
        all_goals
          have HNI := Lib.hid hNI
          clear hNI
          go_wp2_with fail
          rw [← HNI.out]
          refine (rput' _ false NK 2 (by omega) (by omega)).mono ?_
          rintro e z1 ⟨Y1, a1, c1, rfl, e1, o1, b1, q1, r1⟩
          have E1 := Lib.hid e1
          have O1 : Hid (Bs z1 (.slice a1 Y1.length c1) Y1) := Lib.hid o1.bs
          have OX1 : Hid (Own z1 w.heap.size (.slice a' xs.length c') xs) := Lib.hid (HR.out.1.below b1)
          have L1 : Hid (Below w.heap.size w z1) := Lib.hid (HR.out.2.1.trans (b1.mono HR.out.2.1.size))
          have N1 : Hid (Y1.length = 2) := Lib.hid (by have q : Y1 = numB false NK 2 := e1; rw [q, numB_length])
          clear e1 o1 b1
          go_wp2_with (at_builtin; refine wpList_app' rfl _ _ rfl w.heap.size _ xs rfl OX1.out _ Y1 rfl O1.out (by have := N1.out; omega) L1.out.size ?_; intro Z2 a2 c2 z2 E2 O2 L2 N2 hc2; have OL2 : Hid (Below w.heap.size w z2) := Lib.hid (L1.out.trans L2.out); have hcT := below_cells OL2.out _ _ HC.out)
          have M2 : Hid (Z2.length ≤ 66) := Lib.hid (by have := N2.out; have := N1.out; omega)
          clear O1 OX1 L1 L2 N2
          refine (rput' _ false T 2 (by omega) (by omega)).mono ?_
          rintro e z3 ⟨Y3, a3, c3, rfl, e3, o3, b3, q3, r3⟩
          have E3 := Lib.hid e3
          have O3 : Hid (Bs z3 (.slice a3 Y3.length c3) Y3) := Lib.hid o3.bs
          have OX3 : Hid (Own z3 w.heap.size (.slice a2 Z2.length c2) Z2) := Lib.hid (O2.out.below b3)
          have L3 : Hid (Below w.heap.size w z3) := Lib.hid (OL2.out.trans (b3.mono OL2.out.size))
          have N3 : Hid (Y3.length = 2) := Lib.hid (by have q : Y3 = numB false T 2 := e3; rw [q, numB_length])
          clear e3 o3 b3 O2 OL2 hcT
          go_wp2_with (at_builtin; refine wpList_app' rfl _ _ rfl w.heap.size _ Z2 rfl OX3.out _ Y3 rfl O3.out (by have := N3.out; have := M2.out; omega) L3.out.size ?_; intro Z4 a4 c4 z4 E4 O4 L4 N4 hc4)
          have hZ : Z4 = lkHead 1 ++ tagsTo ts (k + 1) := by
            have q1 : Y1 = numB false NK 2 := E1.out
            have q2 : Z2 = xs ++ Y1 := E2.out
            have q3 : Y3 = numB false T 2 := E3.out
            have q4 : Z4 = Z2 ++ Y3 := E4.out
            rw [q4, q3, q2, q1, HR.out.2.2, HNK.out, HTT.out]; simp [tagsTo, tagAt]
          have hZl : Z4.length ≤ 64 := by rw [hZ, List.length_append, tagsTo_len]; have := lkHead_len 1; omega
          have HF : Hid (LrSt w z4 1 ts (k + 1) a4 c4 Z4) := Lib.hid ⟨O4.out, L3.out.trans L4.out, hZ⟩
          clear hZ E1 E2 E3 E4 O3 OX3 L3 L4 N4 O4 HR
          go_roundw
          case rel => exact ⟨k + 1, a4, c4, Z4, by omega, rfl, by go_num, hZl, HF.out⟩
          case measure => simp [intOf]; omega
      · have HKE : Hid (k = ts.length) := Lib.hid (by omega)
        have i1 : ¬ (k : Int) < (ts.length : Int) := by omega
        clear hlt
        have hver : (v == 4) = true ∧ lkKind v = [8, 0] ∨ (v == 4) = false ∧ lkKind v = [134, 221] := by
          rcases HV.out with rfl | rfl
          · exact .inl ⟨rfl, by decide⟩
          · exact .inr ⟨rfl, by decide⟩
        rcases hver with ⟨b9, hK⟩ | ⟨b9, hK⟩
        · have HK := Lib.hid hK
          clear hK
          have tok1 : True := trivial
          have tok2 : True := trivial
          go_wp2_with (first
            | (at_builtin; have _t := tok1; refine wpList_app' rfl _ _ rfl w.heap.size _ xs rfl (HR.out.1.alloc _) _ [8, 0] rfl (bs_new wr [8, 0] _ 5 _ rfl (by decide)) (by simp; omega) (by have := HR.out.2.1.size; simp; omega) ?_; intro Z2 a2 c2 z2 E2 O2 L2 N2 hc2; have LL2 : Hid (Below w.heap.size w z2) := Lib.hid ((HR.out.2.1.alloc HR.out.2.1.size _).trans L2.out); clear tok1)
            | (at_builtin; have _t := tok2; refine wpList_app' rfl _ _ rfl w.heap.size _ Z2 rfl O2.out _ bs rfl (HB.out.below LL2.out) (by have := N2.out; simp at this; omega) LL2.out.size ?_; intro Z3 a3 c3 z3 E3 O3 L3 N3 hc3; clear tok2)
            | fail)
          have hz : Z3 = X := by
            have q2 : Z2 = xs ++ [8, 0] := E2.out
            have q3 : Z3 = Z2 ++ bs := E3.out
            rw [q3, q2, HR.out.2.2, HX.out, ← HK.out, HKE.out]; simp [lkFrame]
          have HF := Lib.hid (lput_fin (w := w) (w' := z3) (X := X) (Z := Z3) (a := a3) (c := c3) hz rfl O3.out.bs (LL2.out.trans L3.out))
          exact bodyPost_ret (v := .tuple #[.slice a3 Z3.length c3, .int .i64 0]) (by simp [results, Try.results46]) rfl HF.out
        · have HK := Lib.hid hK
          clear hK
          have tok1 : True := trivial
          have tok2 : True := trivial
          go_wp2_with (first
            | (at_builtin; have _t := tok1; refine wpList_app' rfl _ _ rfl w.heap.size _ xs rfl (HR.out.1.alloc _) _ [134, 221] rfl (bs_new wr [134, 221] _ 5 _ rfl (by decide)) (by simp; omega) (by have := HR.out.2.1.size; simp; omega) ?_; intro Z2 a2 c2 z2 E2 O2 L2 N2 hc2; have LL2 : Hid (Below w.heap.size w z2) := Lib.hid ((HR.out.2.1.alloc HR.out.2.1.size _).trans L2.out); clear tok1)
            | (at_builtin; have _t := tok2; refine wpList_app' rfl _ _ rfl w.heap.size _ Z2 rfl O2.out _ bs rfl (HB.out.below LL2.out) (by have := N2.out; simp at this; omega) LL2.out.size ?_; intro Z3 a3 c3 z3 E3 O3 L3 N3 hc3; clear tok2)
            | fail)
          have hz : Z3 = X := by
            have q2 : Z2 = xs ++ [134, 221] := E2.out
            have q3 : Z3 = Z2 ++ bs := E3.out
            rw [q3, q2, HR.out.2.2, HX.out, ← HK.out, HKE.out]; simp [lkFrame]
          have HF := Lib.hid (lput_fin (w := w) (w' := z3) (X := X) (Z := Z3) (a := a3) (c := c3) hz rfl O3.out.bs (LL2.out.trans L3.out))
          exact bodyPost_ret (v := .tuple #[.slice a3 Z3.length c3, .int .i64 0]) (by simp [results, Try.results46]) rfl HF.out
end Go.Proofs.Ytnckmaieghlpmaa
