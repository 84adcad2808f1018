/-
  What a frame carries, plain; the walks of link.rest, link.typed, link.raw, horologeref14.short.
-/
import Derived.Test.YtnckmaieghlpmaaUs
import Derived.BigRegion
namespace Go.Proofs.Ytnckmaieghlpmaa
open Go.RowKit
set_option linter.unusedVariables false

abbrev LkT := Nat × List UInt8 × Nat
/-- what is carried behind the type at p -/
def lkTyped (bs : List UInt8) (p : Nat) : LkT :=
  if getN false bs p 2 = 2048 then (4, bs.drop (p + 2), 0) else if getN false bs p 2 = 34525 then (6, bs.drop (p + 2), 0) else (0, [], 2)
/-- .. behind so many tags at most -/
def lkRun : Nat → List UInt8 → Nat → LkT
  | 0, bs, p => if bs.length < p + 2 then (0, [], 3) else lkTyped bs p
  | t + 1, bs, p => if bs.length < p + 2 then (0, [], 3) else if getN false bs p 2 = 34984 ∨ getN false bs p 2 = 33024 then lkRun t bs (p + 4) else lkTyped bs p
def lkRaw : List UInt8 → LkT
  | [] => (0, [], 3)
  | x :: r => if x.toNat / 16 = 4 ∨ x.toNat / 16 = 6 then (x.toNat / 16, x :: r, 0) else (0, [], 2)
def lkOpen (l : Nat) (bs : List UInt8) : LkT :=
  if l = 101 then lkRaw bs else if l = 1 then lkRun 2 bs 12 else if l = 113 then lkRun 0 bs 14 else (0, [], 1)

/-- what is returned: a version, bytes with no room behind them, why there are none -/
def LkRet (w : World) (R : LkT) (e : Ending) (w' : World) : Prop :=
  ∃ a, e = .returned (.tuple #[.int .i64 R.1, .slice a R.2.1.length R.2.1.length, .int .u8 R.2.2]) ∧ Bs w' (.slice a R.2.1.length R.2.1.length) R.2.1 ∧ Below w.heap.size w w'
def RLkRet (w : World) (R : LkT) (e : Ending) (w' : World) : Prop :=
  ∃ a c, e = .returned (.tuple #[.int .i64 R.1, .slice a R.2.1.length c, .int .i64 R.2.2]) ∧ Bs w' (.slice a R.2.1.length c) R.2.1 ∧ Below w.heap.size w w'
theorem lk_none {w w' : World} {k d : Nat} {e : Ending} (he : e = .returned (.tuple #[.int .i64 k, .slice none 0 0, .int .u8 d])) (hb : Below w.heap.size w w') : LkRet w (k, [], d) e w' :=
  ⟨none, he, ⟨none, 0, rfl, Nat.le_refl _, Nat.zero_le _, .inl rfl⟩, hb⟩
theorem rlk_none {w w' : World} {k d : Nat} {e : Ending} (he : e = .returned (.tuple #[.int .i64 k, .slice none 0 0, .int .i64 d])) (hb : Below w.heap.size w w') : RLkRet w (k, [], d) e w' :=
  ⟨none, 0, he, ⟨none, 0, rfl, Nat.le_refl _, Nat.zero_le _, .inl rfl⟩, hb⟩

def RestRet (w : World) (xs : List UInt8) (e : Ending) (w' : World) : Prop :=
  ∃ a, e = .returned (.slice a xs.length xs.length) ∧ Bs w' (.slice a xs.length xs.length) xs ∧ w = w'

set_option maxHeartbeats 400000 in
theorem rest_any (w : World) (v : Value) (bs : List UInt8) (n : Nat) (hb : Bs w v bs) (h : n ≤ bs.length) :
    Calls Try.prog 85 #[v, .int .i64 n] w (RestRet w (bs.drop n)) := by
  have HB := Lib.hid hb
  obtain ⟨a, c, rfl, hl1, hl2, hat⟩ := hb
  clear hat
  unfold maxLen at hl2
  have h1 : (n : Int) ≤ (bs.length : Int) := by omega
  go_enter Try.func85, Try.ntmps85
  go_wp2_with fail
  · go_ret
    refine ⟨a, ?_, ?_, rfl⟩
    · rw [show (bs.drop n).length = 0 by simp; omega]; rfl
    · have e : bs.drop n = [] := List.eq_nil_of_length_eq_zero (by simp; omega)
      rw [e]; exact ⟨a, 0, rfl, Nat.le_refl _, Nat.zero_le _, .inl rfl⟩
  · go_ret
    have hl : (bs.drop n).length = bs.length - n := by simp
    refine ⟨a.map (·.add n), by rw [hl]; rfl, ?_, rfl⟩
    obtain ⟨a', c', he, _, _, hat⟩ := HB.out
    simp only [Value.slice.injEq, true_and] at he
    obtain ⟨rfl, rfl⟩ := he
    have := (bsc_piece hat (n := n) (m := bs.length - n) (c := bs.length - n) (by omega) (Nat.le_refl _) (by unfold maxLen; omega)).bs
    rw [hl]
    rwa [List.take_of_length_le (by omega)] at this

set_option maxHeartbeats 400000 in
theorem typed_any (w : World) (v : Value) (bs : List UInt8) (n : Nat) (hb : Bs w v bs) (h : n + 2 ≤ bs.length) :
    Calls Try.prog 63 #[v, .int .i64 n] w (LkRet w (lkTyped bs n)) := by
  have HB := Lib.hid hb
  obtain ⟨a, c, rfl, hl1, hl2, hat⟩ := hb
  clear hat
  unfold maxLen at hl2
  obtain ⟨N, hN⟩ : ∃ N, N = getN false bs n 2 := ⟨_, rfl⟩
  have hlt : N < 65536 := by rw [hN]; exact getN_lt false bs n 2
  have HN := Lib.hid hN
  by_cases c1 : N = 2048
  · have e : lkTyped bs n = (4, bs.drop (n + 2), 0) := by unfold lkTyped; rw [← hN, if_pos c1]
    rw [e]
    obtain ⟨X, hX⟩ : ∃ X, X = bs.drop (n + 2) := ⟨_, rfl⟩
    rw [← hX]
    have HX := Lib.hid hX
    have b1 : ((N : Int) == 2048) = true := by simp; omega
    clear hN hX e c1
    go_enter Try.func63, Try.ntmps63
    go_wp2_with fail
    refine (u16_any _ _ bs false n HB.out).mono ?_
    rintro e w1 ⟨rfl, hb1⟩
    rw [← HN.out]
    have HB1 : Hid (Bs w1 (.slice a bs.length c) bs) := HB.out.below hb1
    have H1 := Lib.hid hb1
    clear hb1
    go_wp2_with fail
    have hr := rest_any w1 (.slice a bs.length c) bs (n + 2) HB1.out h
    rw [← HX.out] at hr
    refine Calls.mono hr ?_
    rintro e w2 ⟨a2, rfl, hb2, rfl⟩
    have HB2 := Lib.hid hb2
    clear hb2 hr
    go_wp2_with fail
    refine bodyPost_ret (v := .tuple #[.int .i64 4, .slice a2 X.length X.length, .int .u8 0]) (by simp [results, Try.results63]) rfl ⟨a2, rfl, HB2.out, H1.out⟩
  · by_cases c2 : N = 34525
    · have e : lkTyped bs n = (6, bs.drop (n + 2), 0) := by unfold lkTyped; rw [← hN, if_neg c1, if_pos c2]
      rw [e]
      obtain ⟨X, hX⟩ : ∃ X, X = bs.drop (n + 2) := ⟨_, rfl⟩
      rw [← hX]
      have HX := Lib.hid hX
      have b1 : ((N : Int) == 2048) = false := by simp; omega
      have b2 : ((N : Int) == 34525) = true := by simp; omega
      clear c2
      clear hN hX e c1
      go_enter Try.func63, Try.ntmps63
      go_wp2_with fail
      refine (u16_any _ _ bs false n HB.out).mono ?_
      rintro e w1 ⟨rfl, hb1⟩
      rw [← HN.out]
      have HB1 : Hid (Bs w1 (.slice a bs.length c) bs) := HB.out.below hb1
      have H1 := Lib.hid hb1
      clear hb1
      go_wp2_with fail
      have hr := rest_any w1 (.slice a bs.length c) bs (n + 2) HB1.out h
      rw [← HX.out] at hr
      refine Calls.mono hr ?_
      rintro e w2 ⟨a2, rfl, hb2, rfl⟩
      have HB2 := Lib.hid hb2
      clear hb2 hr
      go_wp2_with fail
      refine bodyPost_ret (v := .tuple #[.int .i64 6, .slice a2 X.length X.length, .int .u8 0]) (by simp [results, Try.results63]) rfl ⟨a2, rfl, HB2.out, H1.out⟩
    · have e : lkTyped bs n = (0, [], 2) := by unfold lkTyped; rw [← hN, if_neg c1, if_neg c2]
      rw [e]
      have b1 : ((N : Int) == 2048) = false := by simp; omega
      have b2 : ((N : Int) == 34525) = false := by simp; omega
      clear hN e c1 c2
      go_enter Try.func63, Try.ntmps63
      go_wp2_with fail
      refine (u16_any _ _ bs false n HB.out).mono ?_
      rintro e w1 ⟨rfl, hb1⟩
      rw [← HN.out]
      have H1 := Lib.hid hb1
      clear hb1
      go_wp2_with fail
      exact bodyPost_ret (v := .tuple #[.int .i64 0, .slice none 0 0, .int .u8 2]) (by simp [results, Try.results63]) rfl (lk_none rfl H1.out)

set_option maxHeartbeats 400000 in
theorem raw_any (w : World) (v : Value) (bs : List UInt8) (hb : Bs w v bs) :
    Calls Try.prog 62 #[v] w (LkRet w (lkRaw bs)) := by
  have HB := Lib.hid hb
  obtain ⟨a, c, rfl, hl1, hl2, hat⟩ := hb
  unfold maxLen at hl2
  cases bs with
  | nil =>
    have e : lkRaw [] = (0, [], 3) := rfl
    rw [e]
    clear hat
    go_enter Try.func62, Try.ntmps62
    go_wp2_with fail
    exact bodyPost_ret (v := .tuple #[.int .i64 0, .slice none 0 0, .int .u8 3]) (by simp [results, Try.results62]) rfl (lk_none rfl (Below.refl _ _))
  | cons x r =>
    obtain ⟨b, o, rfl, hc⟩ : ∃ b o, a = some ⟨b, o, none⟩ ∧ ∀ i y, (x :: r)[i]? = some y → w.cell? ⟨b, o + i, none⟩ = some (.int .u8 (y.toNat : Int)) := by
      rcases hat with h | h
      · cases h
      · exact h
    have c0 := hc 0 x rfl
    have hx : x.toNat < 256 := x.toNat_lt
    have hlen : 1 ≤ (x :: r).length := by simp
    obtain ⟨L, hL⟩ : ∃ L, L = x :: r := ⟨_, rfl⟩
    rw [← hL] at HB hl1 hlen ⊢
    obtain ⟨V, hV⟩ : ∃ V : Nat, V = x.toNat / 16 := ⟨_, rfl⟩
    have e1 : (x.toNat : Int) / 16 = (V : Int) := by omega
    have hi : (0 : Int) < (L.length : Int) := by omega
    have h0 : ((L.length : Int) == 0) = false := by rw [beq_eq_false_iff_ne]; omega
    simp only [Nat.add_zero] at c0
    by_cases c4 : V = 4 ∨ V = 6
    · have e : lkRaw L = (V, L, 0) := by rw [hL]; simp only [lkRaw]; rw [if_pos (by rw [← hV]; exact c4), ← hV]
      rw [e]
      have bb : ((V : Int) == 4) = true ∨ ((V : Int) == 4) = false ∧ ((V : Int) == 6) = true := by
        rcases c4 with h | h
        · exact .inl (by simp; omega)
        · exact .inr ⟨by simp; omega, by simp; omega⟩
      clear hV hL hat hc e c4
      rcases bb with b1 | ⟨b1, b2⟩
      all_goals
        go_enter Try.func62, Try.ntmps62
        go_wp2_with fail
        refine (rest_any w _ L 0 HB.out (Nat.zero_le _)).mono ?_
        rw [List.drop_zero]
        rintro e w2 ⟨a2, rfl, hb2, rfl⟩
        have HB2 := Lib.hid hb2
        clear hb2
        go_wp2_with fail
        exact bodyPost_ret (v := .tuple #[.int .i64 V, .slice a2 L.length L.length, .int .u8 0]) (by simp [results, Try.results62]) rfl ⟨a2, rfl, HB2.out, Below.refl _ _⟩
    · have e : lkRaw L = (0, [], 2) := by rw [hL]; simp only [lkRaw]; rw [if_neg (by rw [← hV]; exact c4)]
      rw [e]
      have b1 : ((V : Int) == 4) = false := by simp; omega
      have b2 : ((V : Int) == 6) = false := by simp; omega
      clear hV hL hat hc e c4
      go_enter Try.func62, Try.ntmps62
      go_wp2_with fail
      exact bodyPost_ret (v := .tuple #[.int .i64 0, .slice none 0 0, .int .u8 2]) (by simp [results, Try.results62]) rfl (lk_none rfl (Below.refl _ _))

set_option maxHeartbeats 400000 in
theorem short_any (w : World) (v : Value) (bs : List UInt8) (n : Nat) (hb : Bs w v bs) :
    Calls Try.prog 64 #[v, .int .i64 n] w (RGetAny w (getN false bs n 2) (getOk bs n 2)) := by
  have HR := Lib.hid (rget_any w v bs false n 2 hb)
  obtain ⟨N, hN⟩ : ∃ N, N = getN false bs n 2 := ⟨_, rfl⟩
  obtain ⟨K, hK⟩ : ∃ K, K = getOk bs n 2 := ⟨_, rfl⟩
  rw [← hN, ← hK] at HR ⊢
  clear hN hK hb
  go_enter Try.func64, Try.ntmps64
  go_wp2_with (go_at_call 27; refine HR.out.mono ?_; rintro e w1 ⟨rfl, rfl⟩)
  go_ret2
  exact ⟨rfl, rfl⟩
end Go.Proofs.Ytnckmaieghlpmaa
