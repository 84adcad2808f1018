/-
  udp.Open and horologeref18.Open in one contract each.
-/
import Derived.Test.YtnckmaieghlpmaaUropen
namespace Go.Proofs.Ytnckmaieghlpmaa
open Go.RowKit
set_option linter.unusedVariables false
set_option linter.unusedSimpArgs false

def udpFrom (s t : Bool) (A B bs : List UInt8) : Nat := if udpWhy s t A B bs = 0 then getN false bs 0 2 else 0
def udpTo (s t : Bool) (A B bs : List UInt8) : Nat := if udpWhy s t A B bs = 0 then getN false bs 2 2 else 0
def udpData (s t : Bool) (A B bs : List UInt8) : List UInt8 := if udpWhy s t A B bs = 0 then (bs.drop 8).take (getN false bs 4 2 - 8) else []

def OpenAny (w : World) (f t d : Nat) (xs : List UInt8) (e : Ending) (w' : World) : Prop :=
  ∃ a, e = .returned (.tuple #[.int .u16 f, .int .u16 t, .slice a xs.length xs.length, .int .u8 d]) ∧ Bs w' (.slice a xs.length xs.length) xs ∧ Below w.heap.size w w'
def ROpenAny (w : World) (f t d : Nat) (xs : List UInt8) (e : Ending) (w' : World) : Prop :=
  ∃ a c, e = .returned (.tuple #[.int .i64 f, .int .i64 t, .slice a xs.length c, .int .i64 d]) ∧ Bs w' (.slice a xs.length c) xs ∧ Below w.heap.size w w'

theorem any_no {w : World} {c : Nat} {e : Ending} {w' : World} (h : OpenNo w c e w') : OpenAny w 0 0 c [] e w' :=
  ⟨none, h.1, ⟨none, 0, rfl, Nat.le_refl _, Nat.zero_le _, .inl rfl⟩, h.2⟩
theorem any_yes {w : World} {f t m : Nat} {xs : List UInt8} {e : Ending} {w' : World} (hm : xs.length = m) (h : OpenYes w f t m xs e w') : OpenAny w f t 0 xs e w' := by
  obtain ⟨v, he, ⟨a, hv, h1, h2, hat⟩, hb⟩ := h
  subst hm
  subst hv
  exact ⟨a, he, ⟨a, _, rfl, Nat.le_refl _, h2, hat⟩, hb⟩
theorem rany_no {w : World} {c : Nat} {e : Ending} {w' : World} (h : ROpenNo w c e w') : ROpenAny w 0 0 c [] e w' :=
  ⟨none, 0, h.1, ⟨none, 0, rfl, Nat.le_refl _, Nat.zero_le _, .inl rfl⟩, h.2⟩
theorem rany_yes {w : World} {f t : Nat} {xs : List UInt8} {e : Ending} {w' : World} (h : ROpenYes w f t xs e w') : ROpenAny w f t 0 xs e w' := by
  obtain ⟨v, he, ⟨a, c, hv, h1, h2, hat⟩, hb⟩ := h
  subst hv
  exact ⟨a, c, he, ⟨a, c, rfl, h1, h2, hat⟩, hb⟩

theorem why_cases (s t : Bool) (A B bs : List UInt8) (P : Nat → Nat → Nat → List UInt8 → Prop)
    (h1 : s ≠ t → P 0 0 4 []) (h2 : s = t → bs.length < 8 → P 0 0 3 []) (h3 : s = t → 8 ≤ bs.length → getN false bs 4 2 < 8 → P 0 0 4 [])
    (h4 : s = t → 8 ≤ bs.length → 8 ≤ getN false bs 4 2 → bs.length < getN false bs 4 2 → P 0 0 3 [])
    (h5 : s = t → 8 ≤ bs.length → 8 ≤ getN false bs 4 2 → getN false bs 4 2 ≤ bs.length → getN false bs 6 2 = 0 → s = true → P 0 0 5 [])
    (h6 : s = t → 8 ≤ bs.length → 8 ≤ getN false bs 4 2 → getN false bs 4 2 ≤ bs.length → getN false bs 6 2 = 0 → s = false → P (getN false bs 0 2) (getN false bs 2 2) 0 ((bs.drop 8).take (getN false bs 4 2 - 8)))
    (h7 : s = t → 8 ≤ bs.length → 8 ≤ getN false bs 4 2 → getN false bs 4 2 ≤ bs.length → 0 < getN false bs 6 2 → csum (aheadB s A B (getN false bs 4 2) ++ bs.take (getN false bs 4 2)) ≠ 0 → P 0 0 5 [])
    (h8 : s = t → 8 ≤ bs.length → 8 ≤ getN false bs 4 2 → getN false bs 4 2 ≤ bs.length → 0 < getN false bs 6 2 → csum (aheadB s A B (getN false bs 4 2) ++ bs.take (getN false bs 4 2)) = 0 → P (getN false bs 0 2) (getN false bs 2 2) 0 ((bs.drop 8).take (getN false bs 4 2 - 8))) :
    P (udpFrom s t A B bs) (udpTo s t A B bs) (udpWhy s t A B bs) (udpData s t A B bs) := by
  have fin : ∀ d, udpWhy s t A B bs = d → P (if d = 0 then getN false bs 0 2 else 0) (if d = 0 then getN false bs 2 2 else 0) d (if d = 0 then (bs.drop 8).take (getN false bs 4 2 - 8) else []) → P (udpFrom s t A B bs) (udpTo s t A B bs) (udpWhy s t A B bs) (udpData s t A B bs) := by
    intro d hd h
    unfold udpFrom udpTo udpData
    rw [hd]; exact h
  by_cases c1 : s = t
  · by_cases c2 : bs.length < 8
    · exact fin 3 (by simp [udpWhy, c1, c2]) (h2 c1 c2)
    · by_cases c3 : getN false bs 4 2 < 8
      · exact fin 4 (by simp [udpWhy, c1, c2, c3]) (h3 c1 (by omega) c3)
      · by_cases c4 : bs.length < getN false bs 4 2
        · exact fin 3 (by simp [udpWhy, c1, c2, c3, c4]) (h4 c1 (by omega) (by omega) c4)
        · by_cases c5 : getN false bs 6 2 = 0
          · by_cases c6 : s = true
            · exact fin 5 (by subst c1; simp [udpWhy, c2, c3, c4, c5, c6]) (h5 c1 (by omega) (by omega) (by omega) c5 c6)
            · have c6' : s = false := by simpa using c6
              exact fin 0 (by subst c1; simp [udpWhy, c2, c3, c4, c5, c6']) (h6 c1 (by omega) (by omega) (by omega) c5 c6')
          · by_cases c7 : csum (aheadB s A B (getN false bs 4 2) ++ bs.take (getN false bs 4 2)) = 0
            · exact fin 0 (by subst c1; simp [udpWhy, c2, c3, c4, c5, c7]) (h8 c1 (by omega) (by omega) (by omega) (by omega) c7)
            · exact fin 5 (by subst c1; simp [udpWhy, c2, c3, c4, c5, c7]) (h7 c1 (by omega) (by omega) (by omega) (by omega) c7)
  · exact fin 4 (by simp [udpWhy, c1]) (h1 c1)

theorem open_any (w : World) (s t : Bool) (A B : List UInt8) (v : Value) (bs : List UInt8) (hA : A.length = 16) (hB : B.length = 16) (hb : Bs w v bs) :
    Calls Try.prog 38 #[.agg (adrC s A), .agg (adrC t B), v] w (OpenAny w (udpFrom s t A B bs) (udpTo s t A B bs) (udpWhy s t A B bs) (udpData s t A B bs)) := by
  refine why_cases s t A B bs (fun f g d xs => Calls Try.prog 38 #[.agg (adrC s A), .agg (adrC t B), v] w (OpenAny w f g d xs)) ?_ ?_ ?_ ?_ ?_ ?_ ?_ ?_
  · intro h; exact (open_no1 w s t A B v bs hA hB hb _ _ rfl rfl h).mono fun _ _ h => any_no h
  · rintro rfl h; exact (open_no2 w s A B v bs hA hB hb _ _ rfl rfl h).mono fun _ _ h => any_no h
  · rintro rfl h h3; exact (open_no3 w s A B v bs hA hB hb _ _ rfl rfl h h3).mono fun _ _ h => any_no h
  · rintro rfl h h3 h4; exact (open_no4 w s A B v bs hA hB hb _ _ rfl rfl h h3 h4).mono fun _ _ h => any_no h
  · rintro rfl h h3 h4 h5 rfl; exact (open_no5 w A B v bs hA hB hb _ _ rfl rfl h h3 h4 h5).mono fun _ _ h => any_no h
  · rintro rfl h h3 h4 h5 rfl; exact (open_yes6 w A B v bs hA hB hb _ _ rfl rfl h h3 h4 h5).mono fun _ _ h => any_yes (by rw [List.length_take, List.length_drop]; omega) h
  · rintro rfl h h3 h4 h5 h6; exact (open_no7 w s A B v bs hA hB hb _ _ rfl rfl h h3 h4 h5 h6).mono fun _ _ h => any_no h
  · rintro rfl h h3 h4 h5 h6; exact (open_yes8 w s A B v bs hA hB hb _ _ rfl rfl h h3 h4 h5 h6).mono fun _ _ h => any_yes (by rw [List.length_take, List.length_drop]; omega) h

theorem ropen_any (w : World) (s t : Bool) (A B : List UInt8) (v : Value) (bs : List UInt8) (hA : A.length = 16) (hB : B.length = 16) (hb : Bs w v bs) :
    Calls Try.prog 39 #[.agg (adrC s A), .agg (adrC t B), v] w (ROpenAny w (udpFrom s t A B bs) (udpTo s t A B bs) (udpWhy s t A B bs) (udpData s t A B bs)) := by
  refine why_cases s t A B bs (fun f g d xs => Calls Try.prog 39 #[.agg (adrC s A), .agg (adrC t B), v] w (ROpenAny w f g d xs)) ?_ ?_ ?_ ?_ ?_ ?_ ?_ ?_
  · intro h; exact (ropen_no1 w s t A B v bs hA hB hb _ _ rfl rfl h).mono fun _ _ h => rany_no h
  · rintro rfl h; exact (ropen_no2 w s A B v bs hA hB hb _ _ rfl rfl h).mono fun _ _ h => rany_no h
  · rintro rfl h h3; exact (ropen_no3 w s A B v bs hA hB hb _ _ rfl rfl h h3).mono fun _ _ h => rany_no h
  · rintro rfl h h3 h4; exact (ropen_no4 w s A B v bs hA hB hb _ _ rfl rfl h h3 h4).mono fun _ _ h => rany_no h
  · rintro rfl h h3 h4 h5 rfl; exact (ropen_no5 w A B v bs hA hB hb _ _ rfl rfl h h3 h4 h5).mono fun _ _ h => rany_no h
  · rintro rfl h h3 h4 h5 rfl; exact (ropen_yes6 w A B v bs hA hB hb _ _ rfl rfl h h3 h4 h5).mono fun _ _ h => rany_yes h
  · rintro rfl h h3 h4 h5 h6; exact (ropen_both w s A B v bs hA hB hb _ _ rfl rfl h h3 h4 h5).mono fun _ _ h => rany_no (h.1 h6)
  · rintro rfl h h3 h4 h5 h6; exact (ropen_both w s A B v bs hA hB hb _ _ rfl rfl h h3 h4 h5).mono fun _ _ h => rany_yes (h.2 h6)
theorem udpFrom_lt (s t : Bool) (A B bs : List UInt8) : udpFrom s t A B bs < 65536 := by unfold udpFrom; split; exact getN_lt false bs 0 2; omega
theorem udpTo_lt (s t : Bool) (A B bs : List UInt8) : udpTo s t A B bs < 65536 := by unfold udpTo; split; exact getN_lt false bs 2 2; omega
theorem udpWhy_lt (s t : Bool) (A B bs : List UInt8) : udpWhy s t A B bs < 10 := by
  unfold udpWhy
  split
  · omega
  split
  · omega
  split
  · omega
  split
  · omega
  split
  · omega
  split
  · omega
  omega
end Go.Proofs.Ytnckmaieghlpmaa
