/-
  The plain law of FragMixed: parts of two packets that come mixed.
-/
import Derived.Test.YtnckmaieghlpmaaFwh
namespace Go.Proofs.Ytnckmaieghlpmaa
open Go.RowKit
set_option linter.unusedVariables false

def ent (n : NameD) (ps : List PartD) (live : Bool) : List PkT := if live then [(n, ps)] else []
/-- the table holds one packet's entry, or both, in whatever order they began -/
def TwoT (n1 n2 : NameD) (ps1 ps2 : List PartD) (l1 l2 : Bool) (T : List PkT) : Prop := T = ent n1 ps1 l1 ++ ent n2 ps2 l2 ∨ T = ent n2 ps2 l2 ++ ent n1 ps1 l1
theorem TwoT.swap {n1 n2 : NameD} {ps1 ps2 : List PartD} {l1 l2 : Bool} {T : List PkT} (h : TwoT n1 n2 ps1 ps2 l1 l2 T) : TwoT n2 n1 ps2 ps1 l2 l1 T := h.symm
theorem find_ent {n1 n2 : NameD} (hne : n1 ≠ n2) (ps2 : List PartD) (l2 : Bool) : findPk (ent n2 ps2 l2) n1 = none := by
  unfold findPk
  rw [List.findIdx?_eq_none_iff]
  intro k hk
  unfold ent at hk
  split at hk
  · simp at hk; subst hk
    exact decide_eq_false (fun e => hne e.symm)
  · cases hk
theorem find_front (n1 : NameD) (ps : List PartD) (T : List PkT) : findPk ((n1, ps) :: T) n1 = some 0 := by
  unfold findPk
  rw [List.findIdx?_cons]
  exact if_pos (decide_eq_true rfl)
theorem find_back {n1 n2 : NameD} (hne : n1 ≠ n2) (ps1 ps2 : List PartD) (l2 : Bool) : findPk (ent n2 ps2 l2 ++ [(n1, ps1)]) n1 = some (ent n2 ps2 l2).length := by
  cases l2 with
  | false => exact find_front n1 ps1 []
  | true =>
    unfold findPk ent
    simp only [if_true, List.cons_append, List.nil_append]
    rw [List.findIdx?_cons, if_neg (by simp; exact fun e => hne e.symm), List.findIdx?_cons, if_pos (decide_eq_true rfl)]
    rfl
theorem two_step {most : Int} {n1 n2 : NameD} {a : List UInt8} {C1 : List PartD} (h : Parted most n1 a C1) (hne : n1 ≠ n2) {ps1 ps2 rest : List PartD} {p : PartD} {l2 : Bool} {T : List PkT} (hp : (ps1 ++ p :: rest).Perm C1) (ha : ps1.Pairwise Ahead) (hT : TwoT n1 n2 ps1 ps2 (!ps1.isEmpty) l2 T) :
    ∃ T', takeS 2 most T p = (if rest = [] then ⟨T', a, true, 0⟩ else ⟨T', [], false, 7⟩) ∧ TwoT n1 n2 (insPt p ps1) ps2 (!rest.isEmpty) l2 T' := by
  have hpL : p ∈ C1 := hp.subset (by simp)
  have hmay := h.may p hpL
  have hn := h.nm p hpL
  have hlen2 : (ent n2 ps2 l2).length ≤ 1 := by unfold ent; split <;> simp
  by_cases he : ps1 = []
  · -- the packet begins
    subst he
    have hT0 : T = ent n2 ps2 l2 := by
      have e0 : ent n1 [] (!([] : List PartD).isEmpty) = [] := rfl
      unfold TwoT at hT
      rw [e0] at hT
      simpa using hT
    subst hT0
    have hr : roomed 2 (ent n2 ps2 l2) = ent n2 ps2 l2 := by unfold roomed; rw [if_neg (by omega)]
    have hs := (h.step hp ha (ent n2 ps2 l2 ++ [(n1, [])]) (ent n2 ps2 l2).length n1).2.2
    have htk : takeS 2 most (ent n2 ps2 l2) p = stepIn (ent n2 ps2 l2 ++ [(n1, [])]) (ent n2 ps2 l2).length n1 [] p := by
      unfold takeS
      rw [if_neg (by omega), if_neg (by rw [hmay]; simp), hn, find_ent hne]
      simp only [hr]
    rw [htk, hs]
    by_cases hrest : rest = []
    · refine ⟨ent n2 ps2 l2, ?_, ?_⟩
      · rw [if_pos hrest, if_pos hrest, List.eraseIdx_append_of_length_le (Nat.le_refl _)]
        simp
      · subst hrest; left; simp [ent]
    · refine ⟨ent n2 ps2 l2 ++ [(n1, insPt p [])], ?_, ?_⟩
      · rw [if_neg hrest, if_neg hrest, List.set_append_right _ _ (Nat.le_refl _)]
        simp
      · right
        have : (!rest.isEmpty) = true := by cases rest with
          | nil => exact absurd rfl hrest
          | cons x l => rfl
        rw [this]; rfl
  · have hl1 : (!ps1.isEmpty) = true := by cases ps1 with
      | nil => exact absurd rfl he
      | cons x l => rfl
    rw [hl1] at hT
    have e1 : ent n1 ps1 true = [(n1, ps1)] := rfl
    rcases hT with rfl | rfl
    · rw [e1]
      have hs := (h.step hp ha ([(n1, ps1)] ++ ent n2 ps2 l2) 0 n1).2.2
      have htk : takeS 2 most ([(n1, ps1)] ++ ent n2 ps2 l2) p = stepIn ([(n1, ps1)] ++ ent n2 ps2 l2) 0 n1 ps1 p := by
        unfold takeS
        rw [if_neg (by omega), if_neg (by rw [hmay]; simp), hn]
        have : findPk ([(n1, ps1)] ++ ent n2 ps2 l2) n1 = some 0 := find_front n1 ps1 _
        rw [this]; rfl
      rw [htk, hs]
      by_cases hrest : rest = []
      · refine ⟨ent n2 ps2 l2, ?_, ?_⟩
        · rw [if_pos hrest, if_pos hrest]; rfl
        · subst hrest; left; simp [ent]
      · refine ⟨(n1, insPt p ps1) :: ent n2 ps2 l2, ?_, ?_⟩
        · rw [if_neg hrest, if_neg hrest]; rfl
        · left
          have : (!rest.isEmpty) = true := by cases rest with
            | nil => exact absurd rfl hrest
            | cons x l => rfl
          rw [this]; rfl
    · rw [e1]
      have hs := (h.step hp ha (ent n2 ps2 l2 ++ [(n1, ps1)]) (ent n2 ps2 l2).length n1).2.2
      have hpsa : psAt (ent n2 ps2 l2 ++ [(n1, ps1)]) (ent n2 ps2 l2).length = ps1 := by
        unfold psAt
        rw [List.getElem?_append_right (Nat.le_refl _)]; simp
      have htk : takeS 2 most (ent n2 ps2 l2 ++ [(n1, ps1)]) p = stepIn (ent n2 ps2 l2 ++ [(n1, ps1)]) (ent n2 ps2 l2).length n1 ps1 p := by
        unfold takeS
        rw [if_neg (by omega), if_neg (by rw [hmay]; simp), hn, find_back hne]
        simp only [hpsa]
      rw [htk, hs]
      by_cases hrest : rest = []
      · refine ⟨ent n2 ps2 l2, ?_, ?_⟩
        · rw [if_pos hrest, if_pos hrest, List.eraseIdx_append_of_length_le (Nat.le_refl _)]
          simp
        · subst hrest; left; simp [ent]
      · refine ⟨ent n2 ps2 l2 ++ [(n1, insPt p ps1)], ?_, ?_⟩
        · rw [if_neg hrest, if_neg hrest, List.set_append_right _ _ (Nat.le_refl _)]
          simp
        · right
          have : (!rest.isEmpty) = true := by cases rest with
            | nil => exact absurd rfl hrest
            | cons x l => rfl
          rw [this]; rfl
end Go.Proofs.Ytnckmaieghlpmaa
