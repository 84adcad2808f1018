/-
  The plain law of FragPlays: a packet's parts, as they came (any order), and in their order.
-/
import Derived.Test.YtnckmaieghlpmaaFwh
namespace Go.Proofs.Ytnckmaieghlpmaa
open Go.RowKit
set_option linter.unusedVariables false

theorem bytesP_app (A B : List PartD) : bytesP (A ++ B) = bytesP A + bytesP B := by simp [bytesP]
theorem bytesP_one (q : PartD) : bytesP [q] = q.bs.length := by simp [bytesP]
theorem noGap_app : ∀ (A B : List PartD) (c : Int), noGap c (A ++ B) = (noGap c A && noGap (c + (bytesP A : Int)) B)
  | [], B, c => by simp [noGap, bytesP]
  | a :: A, B, c => by
    have e1 : noGap c (a :: (A ++ B)) = (decide (a.pos = c) && noGap a.fin (A ++ B)) := rfl
    have e2 : noGap c (a :: A) = (decide (a.pos = c) && noGap a.fin A) := rfl
    rw [List.cons_append, e1, e2, noGap_app A B a.fin, ← Bool.and_assoc]
    by_cases h : a.pos = c
    · have e : a.fin + (bytesP A : Int) = c + (bytesP (a :: A) : Int) := by
        have : bytesP (a :: A) = a.bs.length + bytesP A := by simp [bytesP]
        rw [this]; unfold PartD.fin; omega
      rw [e]
    · have : decide (a.pos = c) = false := decide_eq_false h
      rw [this]; simp
/-- parts in their order -/
structure Seq (most : Int) (S : List PartD) : Prop where
  may : ∀ q ∈ S, mayB most q = true
  apart : S.Pairwise Ahead
section
variable {most : Int} {S : List PartD}
theorem Seq.lt (h : Seq most S) {i j : Nat} {x y : PartD} (hi : S[i]? = some x) (hj : S[j]? = some y) (hij : i < j) : x.fin ≤ y.pos ∧ x.more = true := by
  obtain ⟨hi', rfl⟩ := List.getElem?_eq_some_iff.1 hi
  obtain ⟨hj', rfl⟩ := List.getElem?_eq_some_iff.1 hj
  exact List.pairwise_iff_getElem.1 h.apart i j hi' hj' hij
theorem Seq.pos (h : Seq most S) {i : Nat} {x : PartD} (hi : S[i]? = some x) : x.pos < x.fin ∧ 0 ≤ x.pos := by
  have hm := h.may x (List.mem_of_getElem? hi)
  exact ⟨PartD.pos_lt hm, (may_spec hm).2.1⟩
/-- a part that is the last of all bytes is the last -/
theorem Seq.last (h : Seq most S) {q : PartD} (hq : q ∈ S) (hm : q.more = false) : S.getLast? = some q := by
  obtain ⟨i, hi⟩ := List.getElem?_of_mem hq
  have hil := (List.getElem?_eq_some_iff.1 hi).1
  rw [List.getLast?_eq_getElem?]
  by_cases he : i = S.length - 1
  · rw [← he]; exact hi
  · have := (h.lt hi (List.getElem?_eq_getElem (show S.length - 1 < S.length by omega)) (by omega)).2
    rw [hm] at this; cases this
theorem Seq.all_more (h : Seq most S) (ha : ∀ q ∈ S, q.more = true) : wholeB S = false := by
  unfold wholeB lastMore
  cases hl : S.getLast? with
  | none => simp
  | some q => simp [ha q (List.mem_of_getLast? hl)]
/-- the bytes of the first parts end ahead of the next one -/
theorem Seq.seg (h : Seq most S) {j : Nat} {x : PartD} (hj : S[j]? = some x) (hg : noGap 0 (S.take j) = true) : (bytesP (S.take j) : Int) ≤ x.pos := by
  by_cases h0 : j = 0
  · subst h0
    have := (h.pos hj).2
    simp [bytesP]; exact this
  · have hjl := (List.getElem?_eq_some_iff.1 hj).1
    obtain ⟨q, hq, hf⟩ := noGap_fin (S.take j) 0 hg (by intro e; have := congrArg List.length e; rw [List.length_take] at this; simp only [List.length_nil] at this; omega)
    rw [List.getLast?_eq_getElem?, List.length_take, Nat.min_eq_left (by omega), List.getElem?_take, if_pos (by omega)] at hq
    have := (h.lt hq hj (by omega)).1
    omega
theorem Seq.next (h : Seq most S) {j : Nat} {x : PartD} (hx : x ∈ S) (hg : noGap 0 (S.take j) = true) (hp : x.pos = (bytesP (S.take j) : Int)) : S[j]? = some x := by
  obtain ⟨i, hi⟩ := List.getElem?_of_mem hx
  have hil := (List.getElem?_eq_some_iff.1 hi).1
  rcases Nat.lt_trichotomy i j with hlt | heq | hgt
  · exfalso
    by_cases hjl : j < S.length
    · have h1 := h.seg (List.getElem?_eq_getElem hjl) hg
      have h2 := (h.lt hi (List.getElem?_eq_getElem hjl) hlt).1
      obtain ⟨q, hq, hf⟩ := noGap_fin (S.take j) 0 hg (by intro e; have := congrArg List.length e; rw [List.length_take] at this; simp only [List.length_nil] at this; omega)
      rw [List.getLast?_eq_getElem?, List.length_take, Nat.min_eq_left (by omega), List.getElem?_take, if_pos (by omega)] at hq
      have h3 := (h.pos hi).1
      by_cases he : i = j - 1
      · subst he; rw [hi] at hq; cases hq; omega
      · have h4 := (h.lt hi hq (by omega)).1
        have h5 := (h.pos hq).1
        omega
    · rw [List.take_of_length_le (by omega)] at hg hp
      obtain ⟨q, hq, hf⟩ := noGap_fin S 0 hg (by intro e; rw [e] at hil; simp at hil)
      rw [List.getLast?_eq_getElem?] at hq
      have h3 := (h.pos hi).1
      by_cases he : i = S.length - 1
      · rw [← he, hi] at hq; cases hq; omega
      · have h4 := (h.lt hi hq (by omega)).1
        have h5 := (h.pos hq).1
        omega
  · subst heq; exact hi
  · exfalso
    have hjl : j < S.length := by omega
    have h1 := h.seg (List.getElem?_eq_getElem hjl) hg
    have h2 := (h.lt (List.getElem?_eq_getElem hjl) hi hgt).1
    have h3 := (h.pos (List.getElem?_eq_getElem hjl)).1
    omega
theorem noGap_snoc {j : Nat} {x : PartD} (hj : S[j]? = some x) (hg : noGap 0 (S.take j) = true) (hp : x.pos = (bytesP (S.take j) : Int)) : noGap 0 (S.take (j + 1)) = true := by
  rw [List.take_add_one, hj, noGap_app, hg]
  simp [noGap, hp]
theorem noGap_at {j : Nat} {x : PartD} (hj : S[j]? = some x) (hg : noGap 0 S = true) : x.pos = (bytesP (S.take j) : Int) := by
  have hjl := (List.getElem?_eq_some_iff.1 hj).1
  rw [← List.take_append_drop j S, noGap_app] at hg
  have hd : S.drop j = x :: S.drop (j + 1) := by
    rw [List.drop_eq_getElem_cons hjl]
    rw [List.getElem?_eq_getElem hjl] at hj
    cases hj; rfl
  rw [hd] at hg
  simp only [noGap, Bool.and_eq_true, decide_eq_true_eq] at hg
  omega
/-- no part begins where the first ones end: it is not whole -/
theorem Seq.gap (h : Seq most S) {j : Nat} (hj : j < S.length) (hno : ∀ x ∈ S, x.pos ≠ (bytesP (S.take j) : Int)) : wholeB S = false := by
  unfold wholeB
  cases hg : noGap 0 S with
  | false => rfl
  | true => exact absurd (noGap_at (List.getElem?_eq_getElem hj) hg) (hno _ (List.getElem_mem hj))
theorem Seq.short (h : Seq most S) {j : Nat} {q : PartD} (hj : j < S.length) (hg : noGap 0 (S.take j) = true) (hq : S.getLast? = some q) : (bytesP (S.take j) : Int) < q.fin := by
  have h1 := h.seg (List.getElem?_eq_getElem hj) hg
  have h2 := (h.pos (List.getElem?_eq_getElem hj)).1
  rw [List.getLast?_eq_getElem?] at hq
  by_cases he : j = S.length - 1
  · rw [← he, List.getElem?_eq_getElem hj] at hq; cases hq; omega
  · have h3 := (h.lt (List.getElem?_eq_getElem hj) hq (by omega)).1
    have h4 := (h.pos hq).1
    omega
theorem Seq.full (h : Seq most S) {j : Nat} {q : PartD} (hj : S.length ≤ j) (hg : noGap 0 (S.take j) = true) (hq : S.getLast? = some q) (hm : q.more = false) : wholeB S = true ∧ (bytesP (S.take j) : Int) = q.fin := by
  rw [List.take_of_length_le hj] at hg ⊢
  obtain ⟨q', hq', hf⟩ := noGap_fin S 0 hg (by intro e; rw [e] at hq; cases hq)
  rw [hq] at hq'; cases hq'
  refine ⟨?_, by omega⟩
  unfold wholeB lastMore
  rw [hg, hq]; simp [hm]
/-- how far the search has come: the first j parts, in their order, are told -/
structure Told (most : Int) (S : List PartD) (j : Nat) (out : List UInt8) : Prop where
  le : j ≤ S.length
  gap : noGap 0 (S.take j) = true
  out : out = joinB (S.take j)
theorem told_start (S : List PartD) : Told most S 0 [] := ⟨Nat.zero_le _, by simp [noGap], by simp [joinB]⟩
theorem Told.len {j : Nat} {out : List UInt8} (h : Told most S j out) : out.length = bytesP (S.take j) := by rw [h.out, bytesP_join]
theorem Told.step (hS : Seq most S) {j : Nat} {out : List UInt8} (h : Told most S j out) {x : PartD} (hx : x ∈ S) (hp : x.pos = (out.length : Int)) : Told most S (j + 1) (out ++ x.bs) ∧ 0 < x.bs.length := by
  rw [h.len] at hp
  have hj := hS.next hx h.gap hp
  have hjl := (List.getElem?_eq_some_iff.1 hj).1
  refine ⟨⟨hjl, noGap_snoc hj h.gap hp, ?_⟩, (may_spec (hS.may x hx)).1⟩
  rw [List.take_add_one, hj, h.out]
  simp [joinB]
theorem Told.stuck (hS : Seq most S) {j : Nat} {out : List UInt8} (h : Told most S j out) {q : PartD} (hq : q ∈ S) (hm : q.more = false) (hlt : (out.length : Int) < q.fin) (hno : ∀ x ∈ S, x.pos ≠ (out.length : Int)) : wholeB S = false := by
  rw [h.len] at hlt hno
  have hl := hS.last hq hm
  refine hS.gap (j := j) ?_ hno
  rcases Nat.lt_or_ge j S.length with hj | hj
  · exact hj
  · have := (hS.full hj h.gap hl hm).2
    omega
theorem Told.done (hS : Seq most S) {j : Nat} {out : List UInt8} (h : Told most S j out) {q : PartD} (hq : q ∈ S) (hm : q.more = false) (hge : q.fin ≤ (out.length : Int)) : wholeB S = true ∧ out = joinB S := by
  rw [h.len] at hge
  have hl := hS.last hq hm
  have hj : S.length ≤ j := by
    rcases Nat.lt_or_ge j S.length with hj | hj
    · have := hS.short hj h.gap hl; omega
    · exact hj
  refine ⟨(hS.full hj h.gap hl hm).1, ?_⟩
  rw [h.out, List.take_of_length_le hj]
end
/-- place by place: is there a byte of both? -/
theorem meets_no {p q : PartD} (hp : 0 < p.bs.length) (hq : 0 < q.bs.length) (h : ∀ j : Nat, j < p.bs.length → ¬ (q.pos ≤ p.pos + (j : Int) ∧ p.pos + (j : Int) < q.fin)) : ¬ (p.pos < q.fin ∧ q.pos < p.fin) := by
  rintro ⟨h1, h2⟩
  have h0 := h 0 hp
  have h3 := h (q.pos - p.pos).toNat
  unfold PartD.fin at *
  omega
theorem meets_yes {p q : PartD} {j : Nat} (hj : j < p.bs.length) (h : q.pos ≤ p.pos + (j : Int) ∧ p.pos + (j : Int) < q.fin) : p.pos < q.fin ∧ q.pos < p.fin := by
  unfold PartD.fin at *
  omega
end Go.Proofs.Ytnckmaieghlpmaa
