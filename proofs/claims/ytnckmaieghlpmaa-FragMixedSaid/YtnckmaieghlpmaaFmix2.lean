/-
  The plain law of FragMixed, a take at a time.
-/
import Derived.Test.YtnckmaieghlpmaaFmix
namespace Go.Proofs.Ytnckmaieghlpmaa
open Go.RowKit
set_option linter.unusedVariables false

/-- the parts of one packet among what is left -/
def rst (n : NameD) (X : List PartD) : List PartD := X.filter (fun p => decide (p.nm = n))
theorem rst_hit {n : NameD} {p : PartD} (h : p.nm = n) (X : List PartD) : rst n (p :: X) = p :: rst n X := by
  unfold rst; rw [List.filter_cons, if_pos (decide_eq_true h)]
theorem rst_miss {n : NameD} {p : PartD} (h : p.nm ≠ n) (X : List PartD) : rst n (p :: X) = rst n X := by
  unfold rst; rw [List.filter_cons, if_neg (by simpa using h)]
theorem rst_all {n : NameD} {C : List PartD} (h : ∀ p ∈ C, p.nm = n) : rst n C = C := List.filter_eq_self.2 (fun p hp => decide_eq_true (h p hp))
theorem rst_none {n : NameD} {C : List PartD} (h : ∀ p ∈ C, p.nm ≠ n) : rst n C = [] := List.filter_eq_nil_iff.2 (fun p hp => by simpa using h p hp)
/-- what came of both packets, what is left, and the table -/
structure Two (n1 n2 : NameD) (C1 C2 ps1 ps2 X : List PartD) (T : List PkT) : Prop where
  a1 : ps1.Pairwise Ahead
  a2 : ps2.Pairwise Ahead
  p1 : (ps1 ++ rst n1 X).Perm C1
  p2 : (ps2 ++ rst n2 X).Perm C2
  t : TwoT n1 n2 ps1 ps2 (!ps1.isEmpty && !(rst n1 X).isEmpty) (!ps2.isEmpty && !(rst n2 X).isEmpty) T
  nm : ∀ p ∈ X, p.nm = n1 ∨ p.nm = n2
theorem Two.swap {n1 n2 : NameD} {C1 C2 ps1 ps2 X : List PartD} {T : List PkT} (h : Two n1 n2 C1 C2 ps1 ps2 X T) : Two n2 n1 C2 C1 ps2 ps1 X T := ⟨h.a2, h.a1, h.p2, h.p1, h.t.swap, fun p hp => (h.nm p hp).symm⟩
theorem two_start {n1 n2 : NameD} (hne : n1 ≠ n2) {a b : List UInt8} {C1 C2 X : List PartD} (h1 : Parted 500 n1 a C1) (h2 : Parted 500 n2 b C2) (hX : X.Perm (C1 ++ C2)) : Two n1 n2 C1 C2 [] [] X [] := by
  have e1 : (rst n1 X).Perm C1 := by
    have := hX.filter (fun p => decide (p.nm = n1))
    rw [List.filter_append] at this
    have q1 : C1.filter (fun p => decide (p.nm = n1)) = C1 := rst_all h1.nm
    have q2 : C2.filter (fun p => decide (p.nm = n1)) = [] := rst_none (fun p hp e => hne (e.symm.trans (h2.nm p hp)))
    rw [q1, q2, List.append_nil] at this
    exact this
  have e2 : (rst n2 X).Perm C2 := by
    have := hX.filter (fun p => decide (p.nm = n2))
    rw [List.filter_append] at this
    have q1 : C1.filter (fun p => decide (p.nm = n2)) = [] := rst_none (fun p hp e => hne ((h1.nm p hp).symm.trans e))
    have q2 : C2.filter (fun p => decide (p.nm = n2)) = C2 := rst_all h2.nm
    rw [q1, q2, List.nil_append] at this
    exact this
  exact ⟨List.Pairwise.nil, List.Pairwise.nil, e1, e2, Or.inl rfl, fun p hp => by
    rcases List.mem_append.1 (hX.subset hp) with h | h
    · exact .inl (h1.nm p h)
    · exact .inr (h2.nm p h)⟩
theorem Two.take1 {n1 n2 : NameD} (hne : n1 ≠ n2) {a : List UInt8} {C1 C2 ps1 ps2 X : List PartD} {p : PartD} {T : List PkT} (h1 : Parted 500 n1 a C1) (h : Two n1 n2 C1 C2 ps1 ps2 (p :: X) T) (hp : p.nm = n1) :
    ∃ T', takeS 2 500 T p = (if rst n1 X = [] then ⟨T', a, true, 0⟩ else ⟨T', [], false, 7⟩) ∧ Two n1 n2 C1 C2 (insPt p ps1) ps2 X T' := by
  have hp2 : p.nm ≠ n2 := fun e => hne (hp.symm.trans e)
  obtain ⟨a1, a2, p1, p2, t, nm⟩ := h
  rw [rst_hit hp] at p1 t
  rw [rst_miss hp2] at p2 t
  have t' : TwoT n1 n2 ps1 ps2 (!ps1.isEmpty) (!ps2.isEmpty && !(rst n2 X).isEmpty) T := by simpa using t
  obtain ⟨T', e, hT'⟩ := two_step h1 hne p1 a1 t'
  have hs := h1.step p1 a1 T 0 n1
  refine ⟨T', e, hs.1, a2, hs.2.1.trans ?_, p2, ?_, fun q hq => nm q (List.mem_cons_of_mem _ hq)⟩
  · exact List.Perm.refl _
  · have hi : (insPt p ps1).isEmpty = false := by
      cases h : insPt p ps1 with
      | nil => have := insPt_length p ps1; rw [h] at this; simp at this
      | cons x l => rfl
    rw [hi]; simpa using hT'
theorem Two.take2 {n1 n2 : NameD} (hne : n1 ≠ n2) {b : List UInt8} {C1 C2 ps1 ps2 X : List PartD} {p : PartD} {T : List PkT} (h2 : Parted 500 n2 b C2) (h : Two n1 n2 C1 C2 ps1 ps2 (p :: X) T) (hp : p.nm = n2) :
    ∃ T', takeS 2 500 T p = (if rst n2 X = [] then ⟨T', b, true, 0⟩ else ⟨T', [], false, 7⟩) ∧ Two n1 n2 C1 C2 ps1 (insPt p ps2) X T' := by
  obtain ⟨T', e, h'⟩ := Two.take1 hne.symm h2 h.swap hp
  exact ⟨T', e, h'.swap⟩
theorem two_end {n1 n2 : NameD} {C1 C2 ps1 ps2 : List PartD} {T : List PkT} (h : Two n1 n2 C1 C2 ps1 ps2 [] T) : T = [] := by
  have e1 : (rst n1 []).isEmpty = true := rfl
  have e2 : (rst n2 []).isEmpty = true := rfl
  have t := h.t
  rw [e1, e2] at t
  simp only [Bool.not_true, Bool.and_false] at t
  rcases t with t | t <;> exact t
end Go.Proofs.Ytnckmaieghlpmaa
