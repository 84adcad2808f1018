/-
  The plain law of horologelaw17.cut: a packet's bytes, parted.
-/
import Derived.Test.YtnckmaieghlpmaaFwh
namespace Go.Proofs.Ytnckmaieghlpmaa
open Go.RowKit
set_option linter.unusedVariables false

def cutN (sizes : List UInt8) (i : Nat) : Nat := match sizes[i % sizes.length]? with | none => 8 | some s => 8 + 8 * (s.toNat % 8)
def posAt (sizes : List UInt8) : Nat → Nat
  | 0 => 0
  | k + 1 => posAt sizes k + cutN sizes k
def cutP (y : PartD) (b : List UInt8) (n pos : Nat) : PartD := ⟨y.nm, pos, decide (n < b.length - pos), (b.drop pos).take n⟩
def cutL (y : PartD) (b sizes : List UInt8) : Nat → List PartD
  | 0 => []
  | k + 1 => cutL y b sizes k ++ [cutP y b (cutN sizes k) (posAt sizes k)]
theorem cutN_rng (sizes : List UInt8) (i : Nat) : 8 ≤ cutN sizes i ∧ cutN sizes i ≤ 64 ∧ cutN sizes i % 8 = 0 := by
  unfold cutN
  split
  · decide
  · omega
theorem posAt_mod (sizes : List UInt8) : ∀ k, posAt sizes k % 8 = 0 ∧ 8 * k ≤ posAt sizes k
  | 0 => by simp [posAt]
  | k + 1 => by
    have h1 := posAt_mod sizes k
    have h2 := cutN_rng sizes k
    unfold posAt; omega
theorem cutL_len (y : PartD) (b sizes : List UInt8) : ∀ k, (cutL y b sizes k).length = k
  | 0 => rfl
  | k + 1 => by unfold cutL; rw [List.length_append, cutL_len y b sizes k]; rfl
def lastFin (c : Int) (L : List PartD) : Int := (L.getLast?.map PartD.fin).getD c
theorem noGap_snoc : ∀ (L : List PartD) (c : Int) (q : PartD), noGap c (L ++ [q]) = (noGap c L && decide (q.pos = lastFin c L))
  | [], c, q => by
    show (decide (q.pos = c) && true) = (true && decide (q.pos = lastFin c []))
    rw [Bool.and_true, Bool.true_and]; rfl
  | a :: l, c, q => by
    rw [List.cons_append, noGap, noGap, noGap_snoc l a.fin q, Bool.and_assoc]
    congr 3
    unfold lastFin
    cases l with
    | nil => rfl
    | cons a' l' => rw [List.getLast?_cons_cons]; cases h : (a' :: l').getLast? <;> simp_all
theorem cutP_fin (y : PartD) (b : List UInt8) (n pos : Nat) (h : pos ≤ b.length) : (cutP y b n pos).fin = ((min (pos + n) b.length : Nat) : Int) := by
  unfold PartD.fin cutP
  simp only [List.length_take, List.length_drop]
  omega
structure CutI (most : Int) (y : PartD) (b sizes : List UInt8) (k : Nat) : Prop where
  join : joinB (cutL y b sizes k) = b.take (posAt sizes k)
  gap : noGap 0 (cutL y b sizes k) = true
  last : lastFin 0 (cutL y b sizes k) = ((min (posAt sizes k) b.length : Nat) : Int)
  each : ∀ q ∈ cutL y b sizes k, q.nm = y.nm ∧ mayB most q = true ∧ q.fin ≤ (posAt sizes k : Int) ∧ (posAt sizes k < b.length → q.more = true)
  apart : (cutL y b sizes k).Pairwise Ahead
  lm : 0 < k → lastMore (cutL y b sizes k) = decide (posAt sizes k < b.length)
theorem cutI {most : Int} {y : PartD} {b sizes : List UInt8} (hm : (b.length : Int) ≤ most) : ∀ k, (∀ j, j < k → posAt sizes j < b.length) → CutI most y b sizes k
  | 0, _ => ⟨by simp [cutL, joinB, posAt], rfl, by simp [cutL, lastFin, posAt], fun q hq => by simp [cutL] at hq, List.Pairwise.nil, fun h => absurd h (by omega)⟩
  | k + 1, hk => by
    have ih := cutI (y := y) hm k (fun j hj => hk j (by omega))
    have hp := hk k (by omega)
    have hn := cutN_rng sizes k
    have hpm := posAt_mod sizes k
    obtain ⟨n, hnn⟩ : ∃ n, n = cutN sizes k := ⟨_, rfl⟩
    obtain ⟨po, hpo⟩ : ∃ p, p = posAt sizes k := ⟨_, rfl⟩
    have hfin := cutP_fin y b n po (by omega)
    have hsucc : posAt sizes (k + 1) = po + n := by rw [hpo, hnn]; rfl
    have hL : cutL y b sizes (k + 1) = cutL y b sizes k ++ [cutP y b n po] := by rw [hpo, hnn]; rfl
    have i1 := ih.join
    have i3 := ih.last
    have i4 := ih.each
    rw [← hpo] at hp hpm i1 i3 i4
    rw [← hnn] at hn
    have hposv : (cutP y b n po).pos = (po : Int) := rfl
    refine ⟨?_, ?_, ?_, fun q hq => ?_, ?_, fun _ => ?_⟩
    · rw [hL, hsucc]
      unfold joinB at i1 ⊢
      rw [List.flatMap_append, i1]
      simp only [cutP, List.flatMap_cons, List.flatMap_nil, List.append_nil]
      rw [List.take_add]
    · rw [hL, noGap_snoc, ih.gap, i3, hposv]
      simp; omega
    · rw [hL]
      unfold lastFin
      rw [List.getLast?_concat]
      simp only [Option.map_some, Option.getD_some]
      rw [hfin, hsucc]
    · rw [hL] at hq
      rw [hsucc]
      rcases List.mem_append.1 hq with hq | hq
      · obtain ⟨e1, e2, e3, e4⟩ := i4 q hq
        exact ⟨e1, e2, by omega, fun _ => e4 hp⟩
      · simp at hq; subst hq
        refine ⟨rfl, ?_, by rw [hfin]; omega, fun h => by unfold cutP; simp; omega⟩
        unfold mayB cutP
        simp only [List.length_take, List.length_drop, Bool.and_eq_true, decide_eq_true_eq, Bool.or_eq_true, Bool.not_eq_true', decide_eq_false_iff_not]
        refine ⟨⟨⟨⟨⟨by omega, by omega⟩, by omega⟩, by omega⟩, by omega⟩, by omega⟩
    · rw [hL]
      refine List.pairwise_append.2 ⟨ih.apart, by simp, fun a ha c hc => ?_⟩
      simp at hc; subst hc
      obtain ⟨e1, e2, e3, e4⟩ := i4 a ha
      exact ⟨by rw [hposv]; exact e3, e4 hp⟩
    · rw [hL, hsucc]
      unfold lastMore
      rw [List.getLast?_concat]
      simp [cutP]
      omega
theorem cut_parted {most : Int} {y : PartD} {b sizes : List UInt8} (hm : (b.length : Int) ≤ most) {k : Nat} (hk : ∀ j, j < k → posAt sizes j < b.length) (he : b.length ≤ posAt sizes k) (hb : b ≠ []) : Parted most y.nm b (cutL y b sizes k) := by
  have h := cutI (y := y) hm k hk
  have hk0 : 0 < k := by
    rcases Nat.eq_zero_or_pos k with e | e
    · subst e
      have : b.length = 0 := by have := he; simp [posAt] at this; simp [this]
      exact absurd (List.eq_nil_of_length_eq_zero this) hb
    · exact e
  refine ⟨fun q hq => (h.each q hq).1, fun q hq => (h.each q hq).2.1, h.apart, ?_, ?_⟩
  · unfold wholeB
    rw [h.gap, h.lm hk0]
    simp; exact he
  · rw [h.join, List.take_of_length_le he]
end Go.Proofs.Ytnckmaieghlpmaa
