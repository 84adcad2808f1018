/-
  The frame that carries bytes, plain; the walk of link.Put.
-/
import Derived.Test.YtnckmaieghlpmaaLk
import Derived.Test.YtnckmaieghlpmaaApp
namespace Go.Proofs.Ytnckmaieghlpmaa
open Go.RowKit
set_option linter.unusedVariables false

/-- the four bytes of a tag -/
def tagAt (ts : List Nat) (i : Nat) : List UInt8 := numB false (if i + 1 < ts.length then 34984 else 33024) 2 ++ numB false (ts.getD i 0) 2
def tagsTo (ts : List Nat) : Nat → List UInt8
  | 0 => []
  | k + 1 => tagsTo ts k ++ tagAt ts k
theorem tagsTo_len (ts : List Nat) (k : Nat) : (tagsTo ts k).length = 4 * k := by
  induction k with
  | zero => rfl
  | succ k ih => simp only [tagsTo, List.length_append, ih, tagAt, numB_length]; omega
def lkHead (l : Nat) : List UInt8 := if l = 113 then [0, 0, 0, 1, 0, 6, 0, 0, 0, 0, 0, 0, 0, 0] else [0, 0, 0, 0, 0, 0, 0, 0, 0, 0, 0, 0]
theorem lkHead_len (l : Nat) : (lkHead l).length ≤ 14 := by unfold lkHead; split <;> simp
def lkKind (v : Int) : List UInt8 := numB false (if v = 6 then 34525 else 2048) 2
/-- the frame of version v -/
def lkFrame (l : Nat) (v : Int) (ts : List Nat) (bs : List UInt8) : List UInt8 := lkHead l ++ tagsTo ts ts.length ++ lkKind v ++ bs
def firstHalf : List UInt8 → Int
  | [] => 0
  | x :: _ => (x.toNat / 16 : Nat)
def lkPut (l : Nat) (v : Int) (ts : List Nat) (bs : List UInt8) : List UInt8 × Nat :=
  if (v ≠ 4 ∧ v ≠ 6) ∨ (ts ≠ [] ∧ l ≠ 1) then ([], 2)
  else if l = 101 then if bs = [] ∨ firstHalf bs ≠ v then ([], 2) else (bs, 0)
  else if l = 113 then (lkFrame 113 v [] bs, 0)
  else if l ≠ 1 then ([], 2)
  else if 2 < ts.length then ([], 3)
  else (lkFrame 1 v ts bs, 0)

def LPut (w : World) (X : List UInt8 × Nat) (e : Ending) (w' : World) : Prop :=
  ∃ a c, e = .returned (.tuple #[.slice a X.1.length c, .int .i64 X.2]) ∧ Bs w' (.slice a X.1.length c) X.1 ∧ Below w.heap.size w w'
theorem lput_no {w w' : World} {k : Nat} {e : Ending} (he : e = .returned (.tuple #[.slice none 0 0, .int .i64 k])) (hb : Below w.heap.size w w') : LPut w ([], k) e w' :=
  ⟨none, 0, he, ⟨none, 0, rfl, Nat.le_refl _, Nat.zero_le _, .inl rfl⟩, hb⟩

/-- a list of numbers that a slice reads as -/
def Ns (w : World) (v : Value) (ts : List Nat) : Prop := ∃ a c, v = .slice a ts.length c ∧ ts.length ≤ c ∧ c ≤ maxLen ∧ NumsAt w .u16 a (ts.map Int.ofNat) ∧ ∀ t ∈ ts, t < 65536
theorem Ns.below {w w' : World} {v : Value} {ts : List Nat} (h : Ns w v ts) (hb : Below w.heap.size w w') : Ns w' v ts :=
  let ⟨a, c, e, h1, h2, h3, h4⟩ := h; ⟨a, c, e, h1, h2, h3.below hb, h4⟩

/-- where Put stands: the row's block, and its bytes so far -/
def LpSt (w wr : World) (a : Option Addr) (c : Nat) (xs : List UInt8) : Prop :=
  wr.heap[w.heap.size]? = some (.cells #[.slice a xs.length c, .bool false] 30 (0, 0)) ∧ Own wr (w.heap.size + 1) (.slice a xs.length c) xs ∧ Below w.heap.size w wr
theorem lpSt_size {w wr : World} {a : Option Addr} {c : Nat} {xs : List UInt8} (h : LpSt w wr a c xs) : w.heap.size + 1 ≤ wr.heap.size := by
  have := lt_of_block h.1; omega
theorem lpSt_start (w : World) : LpSt w (w.alloc (.cells #[.slice none 0 0, .bool false] 30)) none 0 [] :=
  ⟨heap_alloc_new _ _, own_nil _ _, (Below.refl _ _).alloc (Nat.le_refl _) _⟩
theorem lpSt_call {w wr w' : World} {a : Option Addr} {c : Nat} {xs : List UInt8} (h : LpSt w wr a c xs) (hb : Below wr.heap.size wr w') : LpSt w w' a c xs :=
  ⟨(hb.block _ (lt_of_block h.1)).trans h.1, h.2.1.below hb, h.2.2.trans (hb.mono h.2.2.size)⟩
theorem lpSt_store {w wr : World} {a a' : Option Addr} {c c' : Nat} {xs ys : List UInt8} (h : LpSt w wr a c xs) (ho : Own wr (w.heap.size + 1) (.slice a' ys.length c') ys) :
    LpSt w ((wr.setCell ⟨w.heap.size, 0, none⟩ (.slice a' ys.length c')).setCell ⟨w.heap.size, 1, none⟩ (.bool false)) a' c' ys := by
  refine ⟨?_, own_set (own_set ho (by show w.heap.size < _; omega) _) (by show w.heap.size < _; omega) _, (h.2.2.setCell (Nat.le_refl _) _).setCell (Nat.le_refl _) _⟩
  have h0 := heap_setCell_same wr w.heap.size 0 _ 30 (.slice a' ys.length c') h.1
  exact heap_setCell_same _ w.heap.size 1 _ 30 (.bool false) h0

theorem field30 (W : World) (x y : Value) : (Instr.field 30 (.agg #[x, y]) 0).run Try.prog W = .ok x W := by kernel_rfl
attribute [local go_sem] field30
theorem lput_fin {w w' : World} {X Z : List UInt8} {a : Option Addr} {c : Nat} {e : Ending} (hz : Z = X) (he : e = .returned (.tuple #[.slice a Z.length c, .int .i64 0])) (hb : Bs w' (.slice a Z.length c) Z) (bel : Below w.heap.size w w') : LPut w (X, 0) e w' := by
  subst hz; exact ⟨a, c, he, hb, bel⟩
theorem tags_cell {w wr : World} {a : Option Addr} {ts : List Nat} {k : Nat} (h : NumsAt w .u16 a (ts.map Int.ofNat)) (hb : Below w.heap.size w wr) (hk : k < ts.length) :
    ∃ b o, a = some ⟨b, o, none⟩ ∧ wr.cell? ⟨b, o + k, none⟩ = some (.int .u16 (ts.getD k 0 : Int)) := by
  rcases h with h | ⟨b, o, e, h⟩
  · have : ts = [] := by simpa using h
    subst this; simp at hk
  · exact ⟨b, o, e, below_cells hb _ _ (h k _ (by simp [hk]))⟩

set_option maxRecDepth 100000 in
set_option maxHeartbeats 4000000 in
theorem lput_sll (w : World) (v : Int) (vt vb : Value) (ts : List Nat) (bs : List UInt8) (hv : v = 4 ∨ v = 6) (ht : Ns w vt ts) (ht0 : ts.length = 0) (hb : Bs w vb bs) (hl : bs.length ≤ 4294967296) :
    Calls Try.prog 45 #[.int .u16 113, .int .i64 v, vt, vb] w (LPut w (lkFrame 113 v ts bs, 0)) := by
  have HB := Lib.hid hb
  obtain ⟨at', ct, rfl, htl, htm, htn, htb⟩ := ht
  obtain ⟨a, c, rfl, hl1, hl2, hat⟩ := hb
  have HT := Lib.hid htn
  have HTB := Lib.hid htb
  clear hat htn htb
  unfold maxLen at hl2 htm
  have HS0 := Lib.hid (lpSt_start w)
  obtain ⟨X, hX⟩ : ∃ X, X = lkFrame 113 v ts bs := ⟨_, rfl⟩
  rw [← hX]
  have HX := Lib.hid hX
  have hts : ts.length ≤ 2 := by omega
  obtain ⟨KV, hKV⟩ : ∃ KV : Nat, KV = if v = 6 then 34525 else 2048 := ⟨_, rfl⟩
  have HKV := Lib.hid hKV
  have hKV2 : KV < 65536 := by rw [hKV]; split <;> omega
  have bv : (v == 6) = true ∧ (v != 4) = true ∧ (v != 6) = false ∧ (KV : Int) = 34525 ∨ (v == 6) = false ∧ (v != 4) = false ∧ (KV : Int) = 2048 := by
    rcases hv with rfl | rfl
    · exact .inr ⟨rfl, rfl, by rw [hKV]; rfl⟩
    · exact .inl ⟨rfl, rfl, rfl, by rw [hKV]; rfl⟩
  clear hX hKV hv
  have t0 : ¬ (0 : Int) < (ts.length : Int) := by omega
  have HT0 := Lib.hid ht0
  clear ht0
  rcases bv with ⟨b6, b4, b5, hkv⟩ | ⟨b6, b4, hkv⟩
  all_goals
    have HKI := Lib.hid hkv
    clear hkv
  all_goals
    go_enter Try.func45, Try.ntmps45
    go_wp2_with fail
    refine (put' _ _ [] false 1 4 (own_nil _ 0).bs (by simp) (by omega) (by omega)).mono ?_
    rintro e z1 ⟨Y1, a1, c1, rfl, e1, o1, b1, q1, r1⟩
    have E1 := Lib.hid e1
    have O1 : Hid (Own z1 (w.heap.size + 1) (.slice a1 Y1.length c1) Y1) := Lib.hid (o1.mono (by have := lpSt_size HS0.out; omega))
    have HS1 : Hid (LpSt w z1 none 0 []) := Lib.hid (lpSt_call HS0.out b1)
    have N1 : Hid (Y1.length ≤ 4) := Lib.hid (by have : Y1 = [] ++ numB false 1 4 := e1; rw [this, List.length_append, numB_length]; simp)
    clear e1 o1 b1
    go_wp2_with fail
    refine (put' _ _ Y1 false 6 2 O1.out.bs (by have := N1.out; omega) (by omega) (by omega)).mono ?_
    rintro e z2 ⟨Y2, a2, c2, rfl, e2, o2, b2, q2, r2⟩
    have E2 := Lib.hid e2
    have O2 : Hid (Own z2 (w.heap.size + 1) (.slice a2 Y2.length c2) Y2) := Lib.hid (o2.mono (by have := lpSt_size HS1.out; omega))
    have HS2 : Hid (LpSt w z2 none 0 []) := Lib.hid (lpSt_call HS1.out b2)
    have N2 : Hid (Y2.length ≤ 6) := Lib.hid (by have : Y2 = Y1 ++ numB false 6 2 := e2; rw [this, List.length_append, numB_length]; have := N1.out; omega)
    clear e2 o2 b2
    go_wp2_with fail
    refine (put' _ _ Y2 false 0 8 O2.out.bs (by have := N2.out; omega) (by omega) (by omega)).mono ?_
    rintro e z3 ⟨Y3, a3, c3, rfl, e3, o3, b3, q3, r3⟩
    have E3 := Lib.hid e3
    have O3 : Hid (Own z3 (w.heap.size + 1) (.slice a3 Y3.length c3) Y3) := Lib.hid (o3.mono (by have := lpSt_size HS2.out; omega))
    have HS3 : Hid (LpSt w z3 none 0 []) := Lib.hid (lpSt_call HS2.out b3)
    have N3 : Hid (Y3.length ≤ 14) := Lib.hid (by have : Y3 = Y2 ++ numB false 0 8 := e3; rw [this, List.length_append, numB_length]; have := N2.out; omega)
    clear e3 o3 b3
    have HH : Hid (Y3 = lkHead 113) := Lib.hid (by
      have q1 : Y1 = [] ++ numB false 1 4 := E1.out; have q2 : Y2 = Y1 ++ numB false 6 2 := E2.out; have q3 : Y3 = Y2 ++ numB false 0 8 := E3.out
      rw [q3, q2, q1]; decide)
    obtain ⟨x0, x1, f0, f1⟩ := two_cells HS3.out.1
    have HST := Lib.hid (lpSt_store HS3.out O3.out)
    clear E1 E2 E3
    go_wp2_with fail

    go_loopw [73] (fun s73 wr => ∃ (k : Nat) (a' : Option Addr) (c' : Nat) (xs : List UInt8), k ≤ ts.length ∧ s73 = .int .i64 k ∧ xs.length ≤ 64 ∧ Hid (LpSt w wr a' c' xs ∧ xs = lkHead 113 ++ tagsTo ts k)) (fun s73 _ => ts.length - (intOf s73).toNat)
    case atStart => exact ⟨0, a3, c3, Y3, Nat.zero_le _, rfl, by have := N3.out; omega, HST.out, by rw [HH.out]; simp [tagsTo]⟩
    case round =>
      obtain ⟨k, a', c', xs, hk, rfl, hxs, HR⟩ := hrel
      clear x0 x1 f0 f1 HST HH
      obtain ⟨x0, x1, f0, f1⟩ := two_cells HR.out.1.1
      by_cases hlt : k < ts.length
      · have := HT0.out; omega
      · have HKE : Hid (k = ts.length) := Lib.hid (by omega)
        have HBR : Hid (Bs wr (.slice a bs.length c) bs) := Lib.hid (HB.out.below HR.out.1.2.2)
        have i1 : ¬ (k : Int) < (ts.length : Int) := by omega
        clear hlt
        have tok : True := trivial
        all_goals
          go_wp2_with fail
          rw [← HKI.out]
          refine (put' _ _ xs false KV 2 HR.out.1.2.1.bs (by omega) (by omega) (by omega)).mono ?_
          rintro e z21 ⟨Y21, a21, c21, rfl, e21, o21, b21, q21, r21⟩
          have O21 : Hid (Own z21 w.heap.size (.slice a21 Y21.length c21) Y21) := Lib.hid (o21.mono (by have := lpSt_size HR.out.1; omega))
          have HB21 : Hid (Bs z21 (.slice a bs.length c) bs) := Lib.hid (HBR.out.below b21)
          have HL21 : Hid (Below w.heap.size w z21) := Lib.hid ((lpSt_call HR.out.1 b21).2.2)
          have E21 := Lib.hid e21
          have hY : Y21 ++ bs = X := by
            have q : Y21 = xs ++ numB false KV 2 := E21.out
            rw [q, HR.out.2, HX.out, HKV.out, HKE.out]; simp [lkFrame, lkKind]
          have len21 : Hid (Y21.length ≤ 66) := Lib.hid (by have q : Y21 = xs ++ numB false KV 2 := E21.out; rw [q, List.length_append, numB_length]; omega)
          have HYY := Lib.hid hY
          clear e21 b21 o21 hY x0 x1 f0 f1 HR
          go_wp2_with (at_builtin; refine wpList_app' rfl _ _ rfl w.heap.size _ Y21 rfl O21.out _ bs rfl HB21.out (by have := len21.out; omega) HL21.out.size ?_; intro Z az cz wz EZ OZ LZ NZ hcz)
          have hz : Z = X := EZ.out.trans HYY.out
          have HF := Lib.hid (lput_fin (w := w) (w' := wz) (X := X) (Z := Z) (a := az) (c := cz) hz rfl OZ.out.bs (HL21.out.trans LZ.out))
          exact bodyPost_ret (v := .tuple #[.slice az Z.length cz, .int .i64 0]) (by simp [results, Try.results45]) rfl HF.out

set_option maxRecDepth 100000 in
set_option maxHeartbeats 4000000 in
theorem lput_eth0 (w : World) (v : Int) (vt vb : Value) (ts : List Nat) (bs : List UInt8) (hv : v = 4 ∨ v = 6) (ht : Ns w vt ts) (ht0 : ts.length = 0) (hb : Bs w vb bs) (hl : bs.length ≤ 4294967296) :
    Calls Try.prog 45 #[.int .u16 1, .int .i64 v, vt, vb] w (LPut w (lkFrame 1 v ts bs, 0)) := by
  have HB := Lib.hid hb
  obtain ⟨at', ct, rfl, htl, htm, htn, htb⟩ := ht
  obtain ⟨a, c, rfl, hl1, hl2, hat⟩ := hb
  have HT := Lib.hid htn
  have HTB := Lib.hid htb
  clear hat htn htb
  unfold maxLen at hl2 htm
  have HS0 := Lib.hid (lpSt_start w)
  obtain ⟨X, hX⟩ : ∃ X, X = lkFrame 1 v ts bs := ⟨_, rfl⟩
  rw [← hX]
  have HX := Lib.hid hX
  have hts : ts.length ≤ 2 := by omega
  obtain ⟨KV, hKV⟩ : ∃ KV : Nat, KV = if v = 6 then 34525 else 2048 := ⟨_, rfl⟩
  have HKV := Lib.hid hKV
  have hKV2 : KV < 65536 := by rw [hKV]; split <;> omega
  have bv : (v == 6) = true ∧ (v != 4) = true ∧ (v != 6) = false ∧ (KV : Int) = 34525 ∨ (v == 6) = false ∧ (v != 4) = false ∧ (KV : Int) = 2048 := by
    rcases hv with rfl | rfl
    · exact .inr ⟨rfl, rfl, by rw [hKV]; rfl⟩
    · exact .inl ⟨rfl, rfl, rfl, by rw [hKV]; rfl⟩
  clear hX hKV hv
  have t0 : ¬ (0 : Int) < (ts.length : Int) := by omega
  have HT0 := Lib.hid ht0
  clear ht0
  rcases bv with ⟨b6, b4, b5, hkv⟩ | ⟨b6, b4, hkv⟩
  all_goals
    have HKI := Lib.hid hkv
    clear hkv
  all_goals
    go_enter Try.func45, Try.ntmps45
    go_wp2_with fail
    refine (put' _ _ [] false 0 8 (own_nil _ 0).bs (by simp) (by omega) (by omega)).mono ?_
    rintro e z1 ⟨Y1, a1, c1, rfl, e1, o1, b1, q1, r1⟩
    have E1 := Lib.hid e1
    have O1 : Hid (Own z1 (w.heap.size + 1) (.slice a1 Y1.length c1) Y1) := Lib.hid (o1.mono (by have := lpSt_size HS0.out; omega))
    have HS1 : Hid (LpSt w z1 none 0 []) := Lib.hid (lpSt_call HS0.out b1)
    have N1 : Hid (Y1.length ≤ 8) := Lib.hid (by have : Y1 = [] ++ numB false 0 8 := e1; rw [this, List.length_append, numB_length]; simp)
    clear e1 o1 b1
    go_wp2_with fail
    refine (put' _ _ Y1 false 0 4 O1.out.bs (by have := N1.out; omega) (by omega) (by omega)).mono ?_
    rintro e z2 ⟨Y2, a2, c2, rfl, e2, o2, b2, q2, r2⟩
    have E2 := Lib.hid e2
    have O2 : Hid (Own z2 (w.heap.size + 1) (.slice a2 Y2.length c2) Y2) := Lib.hid (o2.mono (by have := lpSt_size HS1.out; omega))
    have HS2 : Hid (LpSt w z2 none 0 []) := Lib.hid (lpSt_call HS1.out b2)
    have N2 : Hid (Y2.length ≤ 12) := Lib.hid (by have : Y2 = Y1 ++ numB false 0 4 := e2; rw [this, List.length_append, numB_length]; have := N1.out; omega)
    clear e2 o2 b2
    have HH : Hid (Y2 = lkHead 1) := Lib.hid (by
      have q1 : Y1 = [] ++ numB false 0 8 := E1.out; have q2 : Y2 = Y1 ++ numB false 0 4 := E2.out
      rw [q2, q1]; decide)
    obtain ⟨x0, x1, f0, f1⟩ := two_cells HS2.out.1
    have HST := Lib.hid (lpSt_store HS2.out O2.out)
    clear E1 E2
    go_wp2_with fail

    go_loopw [73] (fun s73 wr => ∃ (k : Nat) (a' : Option Addr) (c' : Nat) (xs : List UInt8), k ≤ ts.length ∧ s73 = .int .i64 k ∧ xs.length ≤ 64 ∧ Hid (LpSt w wr a' c' xs ∧ xs = lkHead 1 ++ tagsTo ts k)) (fun s73 _ => ts.length - (intOf s73).toNat)
    case atStart => exact ⟨0, a2, c2, Y2, Nat.zero_le _, rfl, by have := N2.out; omega, HST.out, by rw [HH.out]; simp [tagsTo]⟩
    case round =>
      obtain ⟨k, a', c', xs, hk, rfl, hxs, HR⟩ := hrel
      clear x0 x1 f0 f1 HST HH
      obtain ⟨x0, x1, f0, f1⟩ := two_cells HR.out.1.1
      by_cases hlt : k < ts.length
      · have := HT0.out; omega
      · have HKE : Hid (k = ts.length) := Lib.hid (by omega)
        have HBR : Hid (Bs wr (.slice a bs.length c) bs) := Lib.hid (HB.out.below HR.out.1.2.2)
        have i1 : ¬ (k : Int) < (ts.length : Int) := by omega
        clear hlt
        have tok : True := trivial
        all_goals
          go_wp2_with fail
          rw [← HKI.out]
          refine (put' _ _ xs false KV 2 HR.out.1.2.1.bs (by omega) (by omega) (by omega)).mono ?_
          rintro e z21 ⟨Y21, a21, c21, rfl, e21, o21, b21, q21, r21⟩
          have O21 : Hid (Own z21 w.heap.size (.slice a21 Y21.length c21) Y21) := Lib.hid (o21.mono (by have := lpSt_size HR.out.1; omega))
          have HB21 : Hid (Bs z21 (.slice a bs.length c) bs) := Lib.hid (HBR.out.below b21)
          have HL21 : Hid (Below w.heap.size w z21) := Lib.hid ((lpSt_call HR.out.1 b21).2.2)
          have E21 := Lib.hid e21
          have hY : Y21 ++ bs = X := by
            have q : Y21 = xs ++ numB false KV 2 := E21.out
            rw [q, HR.out.2, HX.out, HKV.out, HKE.out]; simp [lkFrame, lkKind]
          have len21 : Hid (Y21.length ≤ 66) := Lib.hid (by have q : Y21 = xs ++ numB false KV 2 := E21.out; rw [q, List.length_append, numB_length]; omega)
          have HYY := Lib.hid hY
          clear e21 b21 o21 hY x0 x1 f0 f1 HR
          go_wp2_with (at_builtin; refine wpList_app' rfl _ _ rfl w.heap.size _ Y21 rfl O21.out _ bs rfl HB21.out (by have := len21.out; omega) HL21.out.size ?_; intro Z az cz wz EZ OZ LZ NZ hcz)
          have hz : Z = X := EZ.out.trans HYY.out
          have HF := Lib.hid (lput_fin (w := w) (w' := wz) (X := X) (Z := Z) (a := az) (c := cz) hz rfl OZ.out.bs (HL21.out.trans LZ.out))
          exact bodyPost_ret (v := .tuple #[.slice az Z.length cz, .int .i64 0]) (by simp [results, Try.results45]) rfl HF.out

set_option maxRecDepth 100000 in
set_option maxHeartbeats 4000000 in
theorem lput_eth (w : World) (v : Int) (vt vb : Value) (ts : List Nat) (bs : List UInt8) (hv : v = 4 ∨ v = 6) (ht : Ns w vt ts) (ht1 : 0 < ts.length) (ht2 : ts.length ≤ 2) (hb : Bs w vb bs) (hl : bs.length ≤ 4294967296) :
    Calls Try.prog 45 #[.int .u16 1, .int .i64 v, vt, vb] w (LPut w (lkFrame 1 v ts bs, 0)) := by
  have HB := Lib.hid hb
  obtain ⟨at', ct, rfl, htl, htm, htn, htb⟩ := ht
  obtain ⟨a, c, rfl, hl1, hl2, hat⟩ := hb
  have HT := Lib.hid htn
  have HTB := Lib.hid htb
  clear hat htn htb
  unfold maxLen at hl2 htm
  have HS0 := Lib.hid (lpSt_start w)
  obtain ⟨X, hX⟩ : ∃ X, X = lkFrame 1 v ts bs := ⟨_, rfl⟩
  rw [← hX]
  have HX := Lib.hid hX
  have hts : ts.length ≤ 2 := by omega
  obtain ⟨KV, hKV⟩ : ∃ KV : Nat, KV = if v = 6 then 34525 else 2048 := ⟨_, rfl⟩
  have HKV := Lib.hid hKV
  have hKV2 : KV < 65536 := by rw [hKV]; split <;> omega
  have bv : (v == 6) = true ∧ (v != 4) = true ∧ (v != 6) = false ∧ (KV : Int) = 34525 ∨ (v == 6) = false ∧ (v != 4) = false ∧ (KV : Int) = 2048 := by
    rcases hv with rfl | rfl
    · exact .inr ⟨rfl, rfl, by rw [hKV]; rfl⟩
    · exact .inl ⟨rfl, rfl, rfl, by rw [hKV]; rfl⟩
  clear hX hKV hv
  have t0 : ¬ (2 : Int) < (ts.length : Int) := by omega
  have t1 : (0 : Int) < (ts.length : Int) := by omega
  rcases bv with ⟨b6, b4, b5, hkv⟩ | ⟨b6, b4, hkv⟩
  all_goals
    have HKI := Lib.hid hkv
    clear hkv
  all_goals
    go_enter Try.func45, Try.ntmps45
    go_wp2_with fail
    refine (put' _ _ [] false 0 8 (own_nil _ 0).bs (by simp) (by omega) (by omega)).mono ?_
    rintro e z1 ⟨Y1, a1, c1, rfl, e1, o1, b1, q1, r1⟩
    have E1 := Lib.hid e1
    have O1 : Hid (Own z1 (w.heap.size + 1) (.slice a1 Y1.length c1) Y1) := Lib.hid (o1.mono (by have := lpSt_size HS0.out; omega))
    have HS1 : Hid (LpSt w z1 none 0 []) := Lib.hid (lpSt_call HS0.out b1)
    have N1 : Hid (Y1.length ≤ 8) := Lib.hid (by have : Y1 = [] ++ numB false 0 8 := e1; rw [this, List.length_append, numB_length]; simp)
    clear e1 o1 b1
    go_wp2_with fail
    refine (put' _ _ Y1 false 0 4 O1.out.bs (by have := N1.out; omega) (by omega) (by omega)).mono ?_
    rintro e z2 ⟨Y2, a2, c2, rfl, e2, o2, b2, q2, r2⟩
    have E2 := Lib.hid e2
    have O2 : Hid (Own z2 (w.heap.size + 1) (.slice a2 Y2.length c2) Y2) := Lib.hid (o2.mono (by have := lpSt_size HS1.out; omega))
    have HS2 : Hid (LpSt w z2 none 0 []) := Lib.hid (lpSt_call HS1.out b2)
    have N2 : Hid (Y2.length ≤ 12) := Lib.hid (by have : Y2 = Y1 ++ numB false 0 4 := e2; rw [this, List.length_append, numB_length]; have := N1.out; omega)
    clear e2 o2 b2
    have HH : Hid (Y2 = lkHead 1) := Lib.hid (by
      have q1 : Y1 = [] ++ numB false 0 8 := E1.out; have q2 : Y2 = Y1 ++ numB false 0 4 := E2.out
      rw [q2, q1]; decide)
    obtain ⟨x0, x1, f0, f1⟩ := two_cells HS2.out.1
    have HST := Lib.hid (lpSt_store HS2.out O2.out)
    clear E1 E2
    go_wp2_with fail

    go_loopw [73] (fun s73 wr => ∃ (k : Nat) (a' : Option Addr) (c' : Nat) (xs : List UInt8), k ≤ ts.length ∧ s73 = .int .i64 k ∧ xs.length ≤ 64 ∧ Hid (LpSt w wr a' c' xs ∧ xs = lkHead 1 ++ tagsTo ts k)) (fun s73 _ => ts.length - (intOf s73).toNat)
    case atStart => exact ⟨0, a2, c2, Y2, Nat.zero_le _, rfl, by have := N2.out; omega, HST.out, by rw [HH.out]; simp [tagsTo]⟩
    case round =>
      obtain ⟨k, a', c', xs, hk, rfl, hxs, HR⟩ := hrel
      clear x0 x1 f0 f1 HST HH
      obtain ⟨x0, x1, f0, f1⟩ := two_cells HR.out.1.1
      by_cases hlt : k < ts.length
      · obtain ⟨bt, ot, he, hc⟩ := tags_cell HT.out HR.out.1.2.2 hlt
        subst he
        obtain ⟨T, hT⟩ : ∃ T, T = ts.getD k 0 := ⟨_, rfl⟩
        have hT16 : T < 65536 := by rw [hT]; exact HTB.out _ (by simp [List.getD, hlt])
        rw [← hT] at hc
        have HTT := Lib.hid hT
        have i0 : (0 : Int) ≤ (k : Int) := by omega
        have i1 : (k : Int) < (ts.length : Int) := by omega
        have g1 : IntKind.u64.wrap (T : Int) = (T : Int) := Go.wraps_u64 _ (by omega) (by omega)
        clear hT
        obtain ⟨NK, hNK⟩ : ∃ NK : Nat, NK = if k + 1 < ts.length then 34984 else 33024 := ⟨_, rfl⟩
        have HNK := Lib.hid hNK
        have hNK2 : NK < 65536 := by rw [hNK]; split <;> omega
        have hkk : ((k : Int) + 1 < (ts.length : Int) ∧ (NK : Int) = 34984) ∨ (¬ (k : Int) + 1 < (ts.length : Int) ∧ (NK : Int) = 33024) := by
          by_cases h : k + 1 < ts.length
          · exact .inl ⟨by omega, by rw [hNK, if_pos h]; rfl⟩
          · exact .inr ⟨by omega, by rw [hNK, if_neg h]; rfl⟩
        clear hNK
        rcases hkk with ⟨hk1, hNI⟩ | ⟨hk1, hNI⟩
        all_goals
          have HNI := Lib.hid hNI
          clear hNI
          go_wp2_with fail
          rw [← HNI.out]
          refine (put' _ _ xs false NK 2 HR.out.1.2.1.bs (by omega) (by omega) (by omega)).mono ?_
          rintro e z11 ⟨Y11, a11, c11, rfl, e11, o11, b11, q11, r11⟩
          have len11 : Y11.length ≤ 66 := by have q : Y11 = xs ++ numB false NK 2 := e11; rw [q, List.length_append, numB_length]; omega
          have E11 := Lib.hid e11
          have HS11 : Hid (LpSt w z11 a' c' xs) := Lib.hid (lpSt_call HR.out.1 b11)
          clear e11 b11 x0 x1 f0 f1
          go_wp2_with fail
          refine (put' _ _ Y11 false T 2 o11.bs (by omega) (by omega) (by omega)).mono ?_
          rintro e z12 ⟨Y12, a12, c12, rfl, e12, o12, b12, q12, r12⟩
          have E12 := Lib.hid e12
          have HS12 : Hid (LpSt w z12 a' c' xs) := Lib.hid (lpSt_call HS11.out b12)
          have O12 := Lib.hid o12
          obtain ⟨x0, x1, f0, f1⟩ := two_cells HS12.out.1
          have HST : Hid (LpSt w ((z12.setCell ⟨w.heap.size, 0, none⟩ (.slice a12 Y12.length c12)).setCell ⟨w.heap.size, 1, none⟩ (.bool false)) a12 c12 Y12) := Lib.hid (lpSt_store HS12.out (o12.mono (by have := lpSt_size HS11.out; omega)))
          have hY : Y12 = lkHead 1 ++ tagsTo ts (k + 1) := by
            have q1 : Y11 = xs ++ numB false NK 2 := E11.out
            have q2 : Y12 = Y11 ++ numB false T 2 := E12.out
            rw [q2, q1, HR.out.2, HNK.out, HTT.out]; simp [tagsTo, tagAt]
          have len12 : Y12.length ≤ 64 := by rw [hY, List.length_append, tagsTo_len]; have := lkHead_len 1; omega
          have HYY := Lib.hid hY
          clear e12 b12 o12 o11 hY HS11 HS12
          go_wp2_with fail
          go_roundw
          case rel => exact ⟨k + 1, a12, c12, Y12, by omega, by go_num, len12, HST.out, HYY.out⟩
          case measure => simp [intOf]; omega
      · have HKE : Hid (k = ts.length) := Lib.hid (by omega)
        have HBR : Hid (Bs wr (.slice a bs.length c) bs) := Lib.hid (HB.out.below HR.out.1.2.2)
        have i1 : ¬ (k : Int) < (ts.length : Int) := by omega
        clear hlt
        have tok : True := trivial
        all_goals
          go_wp2_with fail
          rw [← HKI.out]
          refine (put' _ _ xs false KV 2 HR.out.1.2.1.bs (by omega) (by omega) (by omega)).mono ?_
          rintro e z21 ⟨Y21, a21, c21, rfl, e21, o21, b21, q21, r21⟩
          have O21 : Hid (Own z21 w.heap.size (.slice a21 Y21.length c21) Y21) := Lib.hid (o21.mono (by have := lpSt_size HR.out.1; omega))
          have HB21 : Hid (Bs z21 (.slice a bs.length c) bs) := Lib.hid (HBR.out.below b21)
          have HL21 : Hid (Below w.heap.size w z21) := Lib.hid ((lpSt_call HR.out.1 b21).2.2)
          have E21 := Lib.hid e21
          have hY : Y21 ++ bs = X := by
            have q : Y21 = xs ++ numB false KV 2 := E21.out
            rw [q, HR.out.2, HX.out, HKV.out, HKE.out]; simp [lkFrame, lkKind]
          have len21 : Hid (Y21.length ≤ 66) := Lib.hid (by have q : Y21 = xs ++ numB false KV 2 := E21.out; rw [q, List.length_append, numB_length]; omega)
          have HYY := Lib.hid hY
          clear e21 b21 o21 hY x0 x1 f0 f1 HR
          go_wp2_with (at_builtin; refine wpList_app' rfl _ _ rfl w.heap.size _ Y21 rfl O21.out _ bs rfl HB21.out (by have := len21.out; omega) HL21.out.size ?_; intro Z az cz wz EZ OZ LZ NZ hcz)
          have hz : Z = X := EZ.out.trans HYY.out
          have HF := Lib.hid (lput_fin (w := w) (w' := wz) (X := X) (Z := Z) (a := az) (c := cz) hz rfl OZ.out.bs (HL21.out.trans LZ.out))
          exact bodyPost_ret (v := .tuple #[.slice az Z.length cz, .int .i64 0]) (by simp [results, Try.results45]) rfl HF.out
end Go.Proofs.Ytnckmaieghlpmaa
