/-
  link.Put in one contract.
-/
import Derived.Test.YtnckmaieghlpmaaLput
namespace Go.Proofs.Ytnckmaieghlpmaa
open Go.RowKit
set_option linter.unusedVariables false
attribute [local go_sem] field30

theorem ne_of_neb {v : Int} {n : Int} (h : v ≠ n) : (v != n) = true := by rw [bne_iff_ne]; exact h
theorem eq_neb {v : Int} {n : Int} (h : v = n) : (v != n) = false := by rw [bne_eq_false_iff_eq]; exact h
theorem eqb_ne {v : Int} {n : Int} (h : v ≠ n) : (v == n) = false := by rw [beq_eq_false_iff_ne]; exact h

set_option maxRecDepth 100000 in
set_option maxHeartbeats 1000000 in
/-- a version that may not be -/
theorem lput_ver (w : World) (l : Nat) (v : Int) (vt vb : Value) (ts : List Nat) (bs : List UInt8) (h4 : v ≠ 4) (h6 : v ≠ 6) (ht : Ns w vt ts) (hb : Bs w vb bs) :
    Calls Try.prog 45 #[.int .u16 l, .int .i64 v, vt, vb] w (LPut w ([], 2)) := by
  obtain ⟨at', ct, rfl, htl, htm, htn, htb⟩ := ht
  obtain ⟨a, c, rfl, hl1, hl2, hat⟩ := hb
  clear hat htn htb
  unfold maxLen at hl2 htm
  have b4 := ne_of_neb h4
  have b6 := ne_of_neb h6
  clear h4 h6
  go_enter Try.func45, Try.ntmps45
  go_wp2_with fail
  exact bodyPost_ret (v := .tuple #[.slice none 0 0, .int .i64 2]) (by simp [results, Try.results45]) rfl (lput_no rfl ((Below.refl _ _).alloc (Nat.le_refl _) _))

theorem ver_cases {v : Int} (hv : v = 4 ∨ v = 6) : (v != 4) = false ∨ (v != 4) = true ∧ (v != 6) = false := by
  rcases hv with rfl | rfl
  · exact .inl rfl
  · exact .inr ⟨rfl, rfl⟩

set_option maxRecDepth 100000 in
set_option maxHeartbeats 1000000 in
/-- tags on another link -/
theorem lput_tags (w : World) (l : Nat) (v : Int) (vt vb : Value) (ts : List Nat) (bs : List UInt8) (hv : v = 4 ∨ v = 6) (h1 : ts ≠ []) (h2 : l ≠ 1) (ht : Ns w vt ts) (hb : Bs w vb bs) :
    Calls Try.prog 45 #[.int .u16 l, .int .i64 v, vt, vb] w (LPut w ([], 2)) := by
  obtain ⟨at', ct, rfl, htl, htm, htn, htb⟩ := ht
  obtain ⟨a, c, rfl, hl1, hl2, hat⟩ := hb
  clear hat htn htb
  unfold maxLen at hl2 htm
  have t1 : (0 : Int) < (ts.length : Int) := by have := List.length_pos_iff.2 h1; omega
  have t2 : ((l : Int) != 1) = true := ne_of_neb (by omega)
  clear h1 h2
  rcases ver_cases hv with b4 | ⟨b4, b6⟩
  all_goals
    clear hv
    go_enter Try.func45, Try.ntmps45
    go_wp2_with fail
    exact bodyPost_ret (v := .tuple #[.slice none 0 0, .int .i64 2]) (by simp [results, Try.results45]) rfl (lput_no rfl ((Below.refl _ _).alloc (Nat.le_refl _) _))

set_option maxRecDepth 100000 in
set_option maxHeartbeats 1000000 in
/-- a link that there is not -/
theorem lput_other (w : World) (l : Nat) (v : Int) (vt vb : Value) (bs : List UInt8) (hv : v = 4 ∨ v = 6) (h1 : l ≠ 1) (h2 : l ≠ 101) (h3 : l ≠ 113) (ht : Ns w vt []) (hb : Bs w vb bs) :
    Calls Try.prog 45 #[.int .u16 l, .int .i64 v, vt, vb] w (LPut w ([], 2)) := by
  obtain ⟨at', ct, rfl, htl, htm, htn, htb⟩ := ht
  obtain ⟨a, c, rfl, hl1, hl2, hat⟩ := hb
  clear hat htn htb
  unfold maxLen at hl2 htm
  have t1 : ((l : Int) != 1) = true := ne_of_neb (by omega)
  have t2 : ((l : Int) == 101) = false := eqb_ne (by omega)
  have t3 : ((l : Int) == 113) = false := eqb_ne (by omega)
  clear h1 h2 h3
  rcases ver_cases hv with b4 | ⟨b4, b6⟩
  all_goals
    clear hv
    go_enter Try.func45, Try.ntmps45
    go_wp2_with fail
    exact bodyPost_ret (v := .tuple #[.slice none 0 0, .int .i64 2]) (by simp [results, Try.results45]) rfl (lput_no rfl ((Below.refl _ _).alloc (Nat.le_refl _) _))

set_option maxRecDepth 100000 in
set_option maxHeartbeats 1000000 in
/-- more tags than may be -/
theorem lput_long (w : World) (v : Int) (vt vb : Value) (ts : List Nat) (bs : List UInt8) (hv : v = 4 ∨ v = 6) (h1 : 2 < ts.length) (ht : Ns w vt ts) (hb : Bs w vb bs) :
    Calls Try.prog 45 #[.int .u16 1, .int .i64 v, vt, vb] w (LPut w ([], 3)) := by
  obtain ⟨at', ct, rfl, htl, htm, htn, htb⟩ := ht
  obtain ⟨a, c, rfl, hl1, hl2, hat⟩ := hb
  clear hat htn htb
  unfold maxLen at hl2 htm
  have t1 : (0 : Int) < (ts.length : Int) := by omega
  have t2 : (2 : Int) < (ts.length : Int) := by omega
  rcases ver_cases hv with b4 | ⟨b4, b6⟩
  all_goals
    clear hv
    go_enter Try.func45, Try.ntmps45
    go_wp2_with fail
    exact bodyPost_ret (v := .tuple #[.slice none 0 0, .int .i64 3]) (by simp [results, Try.results45]) rfl (lput_no rfl ((Below.refl _ _).alloc (Nat.le_refl _) _))

set_option maxRecDepth 100000 in
set_option maxHeartbeats 1000000 in
/-- IP alone: nothing -/
theorem lput_raw0 (w : World) (v : Int) (vt vb : Value) (hv : v = 4 ∨ v = 6) (ht : Ns w vt []) (hb : Bs w vb []) :
    Calls Try.prog 45 #[.int .u16 101, .int .i64 v, vt, vb] w (LPut w ([], 2)) := by
  obtain ⟨at', ct, rfl, htl, htm, htn, htb⟩ := ht
  obtain ⟨a, c, rfl, hl1, hl2, hat⟩ := hb
  clear hat htn htb
  unfold maxLen at hl2 htm
  rcases ver_cases hv with b4 | ⟨b4, b6⟩
  all_goals
    clear hv
    go_enter Try.func45, Try.ntmps45
    go_wp2_with fail
    exact bodyPost_ret (v := .tuple #[.slice none 0 0, .int .i64 2]) (by simp [results, Try.results45]) rfl (lput_no rfl ((Below.refl _ _).alloc (Nat.le_refl _) _))

set_option maxRecDepth 100000 in
set_option maxHeartbeats 1000000 in
theorem lput_raw (w : World) (v : Int) (vt vb : Value) (x : UInt8) (r : List UInt8) (hv : v = 4 ∨ v = 6) (ht : Ns w vt []) (hb : Bs w vb (x :: r)) (hl : (x :: r).length ≤ 4294967296) :
    Calls Try.prog 45 #[.int .u16 101, .int .i64 v, vt, vb] w (LPut w (if ((x.toNat / 16 : Nat) : Int) ≠ v then ([], 2) else (x :: r, 0))) := by
  have HB := Lib.hid hb
  obtain ⟨at', ct, rfl, htl, htm, htn, htb⟩ := ht
  obtain ⟨a, c, rfl, hl1, hl2, hat⟩ := hb
  clear htn htb
  unfold maxLen at hl2 htm
  obtain ⟨b, o, rfl, hc⟩ : ∃ b o, a = some ⟨b, o, none⟩ ∧ ∀ i y, (x :: r)[i]? = some y → w.cell? ⟨b, o + i, none⟩ = some (.int .u8 (y.toNat : Int)) := by
    rcases hat with h | h
    · cases h
    · exact h
  have c0 : ∀ ob, (w.alloc ob).cell? ⟨b, o, none⟩ = some (.int .u8 (x.toNat : Int)) := fun ob => below_cells (below_alloc w ob) _ _ (by have := hc 0 x rfl; rwa [Nat.add_zero] at this)
  have c0' := c0 (.cells #[.slice none 0 0, .bool false] 30)
  have hx : x.toNat < 256 := x.toNat_lt
  obtain ⟨L, hL⟩ : ∃ L, L = x :: r := ⟨_, rfl⟩
  have hlen : 1 ≤ L.length := by rw [hL]; simp
  rw [← hL] at HB hl1 hl ⊢
  obtain ⟨V, hV⟩ : ∃ V : Nat, V = x.toNat / 16 := ⟨_, rfl⟩
  rw [← hV]
  have e1 : (x.toNat : Int) / 16 = (V : Int) := by omega
  have hi : (0 : Int) < (L.length : Int) := by omega
  have h0 : ((L.length : Int) == 0) = false := eqb_ne (by omega)
  clear hL hV hc hat c0
  by_cases hne : (V : Int) ≠ v
  · rw [if_pos hne]
    have b1 := ne_of_neb hne
    clear hne
    rcases ver_cases hv with b4 | ⟨b4, b6⟩
    all_goals
      clear hv
      go_enter Try.func45, Try.ntmps45
      go_wp2_with fail
      exact bodyPost_ret (v := .tuple #[.slice none 0 0, .int .i64 2]) (by simp [results, Try.results45]) rfl (lput_no rfl ((Below.refl _ _).alloc (Nat.le_refl _) _))
  · rw [if_neg hne]
    have b1 : ((V : Int) != v) = false := eq_neb (by omega)
    clear hne
    rcases ver_cases hv with b4 | ⟨b4, b6⟩
    all_goals
      clear hv
      go_enter Try.func45, Try.ntmps45
      go_wp2_with (at_builtin; refine wpList_app' rfl _ _ rfl (w.heap.size + 1) _ [] rfl (own_nil _ _) _ L rfl (HB.out.alloc _) (by simp; omega) (by simp) ?_; intro Z az cz wz EZ OZ LZ NZ hcz)
      have hz : Z = L := EZ.out
      have HF := Lib.hid (lput_fin (w := w) (w' := wz) (X := L) (Z := Z) (a := az) (c := cz) hz rfl OZ.out.bs ((below_alloc _ _).trans (LZ.out.mono (by omega))))
      exact bodyPost_ret (v := .tuple #[.slice az Z.length cz, .int .i64 0]) (by simp [results, Try.results45]) rfl HF.out

theorem lput_any (w : World) (l : Nat) (v : Int) (vt vb : Value) (ts : List Nat) (bs : List UInt8) (ht : Ns w vt ts) (hb : Bs w vb bs) (hl : bs.length ≤ 4294967296) :
    Calls Try.prog 45 #[.int .u16 l, .int .i64 v, vt, vb] w (LPut w (lkPut l v ts bs)) := by
  unfold lkPut
  by_cases h1 : (v ≠ 4 ∧ v ≠ 6) ∨ (ts ≠ [] ∧ l ≠ 1)
  · rw [if_pos h1]
    by_cases hv : v = 4 ∨ v = 6
    · rcases h1 with h | h
      · omega
      · exact lput_tags w l v vt vb ts bs hv h.1 h.2 ht hb
    · exact lput_ver w l v vt vb ts bs (fun h => hv (.inl h)) (fun h => hv (.inr h)) ht hb
  · rw [if_neg h1]
    have hv : v = 4 ∨ v = 6 := by
      by_cases h4 : v = 4
      · exact .inl h4
      · by_cases h6 : v = 6
        · exact .inr h6
        · exact absurd (.inl ⟨h4, h6⟩) h1
    have hts : ts ≠ [] → l = 1 := fun h => by
      by_cases h2 : l = 1
      · exact h2
      · exact absurd (.inr ⟨h, h2⟩) h1
    clear h1
    by_cases h2 : l = 101
    · subst h2
      rw [if_pos rfl]
      have h0 : ts = [] := by
        by_cases h : ts = []
        · exact h
        · have := hts h; omega
      subst h0
      cases bs with
      | nil => rw [if_pos (.inl rfl)]; exact lput_raw0 w v vt vb hv ht hb
      | cons x r =>
        have q := lput_raw w v vt vb x r hv ht hb hl
        by_cases hne : ((x.toNat / 16 : Nat) : Int) ≠ v
        · rw [if_pos hne] at q; rw [if_pos (.inr hne)]; exact q
        · rw [if_neg hne] at q
          rw [if_neg (fun h => by rcases h with h | h; cases h; exact hne h)]; exact q
    · rw [if_neg h2]
      by_cases h3 : l = 113
      · subst h3
        rw [if_pos rfl]
        have h0 : ts = [] := by
          by_cases h : ts = []
          · exact h
          · have := hts h; omega
        subst h0
        exact lput_sll w v vt vb [] bs hv ht rfl hb hl
      · rw [if_neg h3]
        by_cases h4 : l = 1
        · subst h4
          rw [if_neg (by omega)]
          by_cases h5 : 2 < ts.length
          · rw [if_pos h5]; exact lput_long w v vt vb ts bs hv h5 ht hb
          · rw [if_neg h5]
            by_cases h6 : ts.length = 0
            · exact lput_eth0 w v vt vb ts bs hv ht h6 hb hl
            · exact lput_eth w v vt vb ts bs hv ht (by omega) (by omega) hb hl
        · rw [if_pos h4]
          have h0 : ts = [] := by
            by_cases h : ts = []
            · exact h
            · have := hts h; omega
          subst h0
          exact lput_other w l v vt vb bs hv h4 h2 h3 ht hb
end Go.Proofs.Ytnckmaieghlpmaa
