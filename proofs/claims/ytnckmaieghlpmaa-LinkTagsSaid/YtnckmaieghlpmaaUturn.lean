/-
  Which changes leave a datagram's checksum as it is: plain.
-/
import Derived.Test.YtnckmaieghlpmaaUmath
namespace Go.Proofs.Ytnckmaieghlpmaa
open Go.RowKit
set_option linter.unusedVariables false
set_option linter.unusedSimpArgs false

/-- a byte's worth at a place -/
def wt (odd : Bool) (i : Nat) : Nat := if par odd i then 1 else 256
theorem raw_set (odd : Bool) (l : List UInt8) (i : Nat) (v x : UInt8) (h : l[i]? = some x) : raw odd (l.set i v) + wt odd i * x.toNat = raw odd l + wt odd i * v.toNat := by
  induction l generalizing odd i with
  | nil => simp at h
  | cons y r ih =>
    cases i with
    | zero =>
      simp only [List.getElem?_cons_zero, Option.some.injEq] at h
      subst h
      simp only [List.set_cons_zero, raw, wt, par_zero]
      cases odd <;> simp <;> omega
    | succ i =>
      simp only [List.getElem?_cons_succ] at h
      have := ih (!odd) i h
      have hw : wt odd (i + 1) = wt (!odd) i := by
        unfold wt
        rw [par_succ]
        have : par (!odd) i = !par odd i := by unfold par; cases odd <;> cases (i % 2 == 1) <;> rfl
        rw [this]
      simp only [List.set_cons_succ, raw, hw]
      omega

theorem raw_app2 (a b : List UInt8) (h : a.length % 2 = 0) : raw false (a ++ b) = raw false a + raw false b := by
  rw [raw_append]; simp [par, h]

def udpRaw (s : Bool) (A B : List UInt8) (sp dp n : Nat) (data : List UInt8) : Nat :=
  raw false (if s then A else A.take 4) + raw false (if s then B else B.take 4) + raw false (if s then [0, 0] ++ numB false n 2 ++ [0, 0, 0, 17] else [0, 17] ++ numB false n 2) +
  (raw false (numB false sp 2) + raw false (numB false dp 2) + raw false (numB false n 2) + raw false [0, 0] + raw false data)
theorem raw_udp0 (sp dp : Nat) (data : List UInt8) : raw false (udp0 sp dp data) = raw false (numB false sp 2) + raw false (numB false dp 2) + raw false (numB false (8 + data.length) 2) + raw false [0, 0] + raw false data := by
  unfold udp0
  rw [raw_app2 _ data (by simp [numB_length]), raw_app2 _ [0, 0] (by simp [numB_length]), raw_app2 _ (numB false (8 + data.length) 2) (by simp [numB_length]), raw_app2 _ (numB false dp 2) (by simp [numB_length])]
theorem raw_all (s : Bool) (A B : List UInt8) (sp dp : Nat) (data : List UInt8) (hA : A.length = 16) (hB : B.length = 16) :
    raw false (aheadB s A B (8 + data.length) ++ udp0 sp dp data) = udpRaw s A B sp dp (8 + data.length) data := by
  rw [raw_app2 _ _ (by rw [aheadB_len s A B _ hA hB]; cases s <;> rfl), raw_udp0]
  cases s
  · simp only [aheadB, udpRaw, Bool.false_eq_true, if_false]
    rw [raw_app2 _ ([0, 17] ++ numB false (8 + data.length) 2) (by simp [hA, hB]), raw_app2 _ (B.take 4) (by simp [hA])]
  · simp only [aheadB, udpRaw, if_true]
    rw [raw_app2 _ ([0, 0] ++ numB false (8 + data.length) 2 ++ [0, 0, 0, 17]) (by simp [hA, hB]), raw_app2 _ B (by simp [hA])]
theorem udpS_raw (s : Bool) (A B A' B' : List UInt8) (sp dp sp' dp' : Nat) (data data' : List UInt8) (hA : A.length = 16) (hB : B.length = 16) (hA' : A'.length = 16) (hB' : B'.length = 16)
    (h : udpRaw s A B sp dp (8 + data.length) data = udpRaw s A' B' sp' dp' (8 + data'.length) data') : udpS s A B sp dp data = udpS s A' B' sp' dp' data' := by
  unfold udpS csum
  rw [raw_all s A B sp dp data hA hB, raw_all s A' B' sp' dp' data' hA' hB', h]
/-- both ends turned about -/
theorem udpS_ends (s : Bool) (A B : List UInt8) (sp dp : Nat) (data : List UInt8) (hA : A.length = 16) (hB : B.length = 16) : udpS s A B sp dp data = udpS s B A dp sp data :=
  udpS_raw s A B B A sp dp dp sp data data hA hB hB hA (by unfold udpRaw; omega)

/-- two bytes that stand where two others do -/
def mixed (l : List UInt8) (x y : Nat) : List UInt8 := (((l.set x (l.getD y 0)).set (x + 1) (l.getD (y + 1) 0)).set y (l.getD x 0)).set (y + 1) (l.getD (x + 1) 0)
theorem mixed_len (l : List UInt8) (x y : Nat) : (mixed l x y).length = l.length := by simp [mixed]
theorem raw_mixed (l : List UInt8) (x y : Nat) (hx : x % 2 = 0) (hy : y % 2 = 0) (hx1 : x + 1 < l.length) (hy1 : y + 1 < l.length) : raw false (mixed l x y) = raw false l := by
  have g : ∀ i, i < l.length → l[i]? = some (l.getD i 0) := fun i hi => by simp [List.getD, hi]
  have w0 : wt false x = 256 := by simp [wt, par, hx]
  have w1 : wt false (x + 1) = 1 := by have : (x + 1) % 2 = 1 := by omega
                                       simp [wt, par, this]
  have w2 : wt false y = 256 := by simp [wt, par, hy]
  have w3 : wt false (y + 1) = 1 := by have : (y + 1) % 2 = 1 := by omega
                                       simp [wt, par, this]
  by_cases he : x = y
  · subst he
    have e : mixed l x x = l := by
      apply List.ext_getElem?
      intro k
      unfold mixed
      by_cases h1 : k = x + 1
      · subst h1; rw [List.getElem?_set_self (by simp; omega), g _ hx1]
      · rw [List.getElem?_set_ne (by omega)]
        by_cases h2 : k = x
        · subst h2; rw [List.getElem?_set_self (by simp; omega), g _ (by omega)]
        · rw [List.getElem?_set_ne (by omega), List.getElem?_set_ne (by omega), List.getElem?_set_ne (by omega)]
    rw [e]
  · have s1 := raw_set false l x (l.getD y 0) _ (g x (by omega))
    have s2 := raw_set false (l.set x (l.getD y 0)) (x + 1) (l.getD (y + 1) 0) (l.getD (x + 1) 0) (by rw [List.getElem?_set_ne (by omega)]; exact g _ hx1)
    have s3 := raw_set false ((l.set x (l.getD y 0)).set (x + 1) (l.getD (y + 1) 0)) y (l.getD x 0) (l.getD y 0) (by rw [List.getElem?_set_ne (by omega), List.getElem?_set_ne (by omega)]; exact g _ (by omega))
    have s4 := raw_set false (((l.set x (l.getD y 0)).set (x + 1) (l.getD (y + 1) 0)).set y (l.getD x 0)) (y + 1) (l.getD (x + 1) 0) (l.getD (y + 1) 0) (by
      rw [List.getElem?_set_ne (by omega), List.getElem?_set_ne (by omega), List.getElem?_set_ne (by omega)]; exact g _ hy1)
    rw [w0] at s1
    rw [w1] at s2
    rw [w2] at s3
    rw [w3] at s4
    unfold mixed
    omega
theorem udpS_mixed (s : Bool) (A B : List UInt8) (sp dp : Nat) (data : List UInt8) (x y : Nat) (hA : A.length = 16) (hB : B.length = 16) (hx : x % 2 = 0) (hy : y % 2 = 0) (hx1 : x + 1 < data.length) (hy1 : y + 1 < data.length) :
    udpS s A B sp dp (mixed data x y) = udpS s A B sp dp data :=
  udpS_raw s A B A B sp dp sp dp _ _ hA hB hA hB (by unfold udpRaw; rw [raw_mixed data x y hx hy hx1 hy1, mixed_len])
end Go.Proofs.Ytnckmaieghlpmaa
