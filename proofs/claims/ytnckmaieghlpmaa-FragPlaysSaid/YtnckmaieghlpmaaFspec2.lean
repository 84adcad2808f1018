/-
  The plain law of a table: bounds.
-/
import Derived.Test.YtnckmaieghlpmaaZ7
namespace Go.Proofs.Ytnckmaieghlpmaa
open Go.RowKit
set_option linter.unusedVariables false

theorem bytes_sorted {most : Int} : ∀ (ps : List PartD) (c : Int), (∀ q ∈ ps, mayB most q = true ∧ c ≤ q.pos) → ps.Pairwise Ahead → c ≤ most → c + (bytesP ps : Int) ≤ most
  | [], c, _, _, hc => by simp [bytesP]; exact hc
  | a :: l, c, hm, hp, hc => by
    obtain ⟨h1, h2⟩ := List.pairwise_cons.1 hp
    obtain ⟨ha, hca⟩ := hm a (by simp)
    have hs := may_spec ha
    have ih := bytes_sorted l a.fin (fun q hq => ⟨(hm q (by simp [hq])).1, (h1 q hq).1⟩) h2 hs.2.2.2.2.2
    have e : bytesP (a :: l) = a.bs.length + bytesP l := by simp [bytesP]
    rw [e]
    unfold PartD.fin at ih
    omega
theorem OkPk.bytes {most : Int} {k : PkT} (h : OkPk most k) (hne : k.2 ≠ []) : 1 ≤ bytesP k.2 ∧ (bytesP k.2 : Int) ≤ most := by
  obtain ⟨n, ps⟩ := k
  cases ps with
  | nil => exact absurd rfl hne
  | cons a l =>
    have ha := may_spec (h.may a (by simp))
    refine ⟨?_, ?_⟩
    · have e : bytesP (a :: l) = a.bs.length + bytesP l := by simp [bytesP]
      show 1 ≤ bytesP (a :: l)
      rw [e]; omega
    · have := bytes_sorted (most := most) (a :: l) 0 (fun q hq => ⟨h.may q hq, (may_spec (h.may q hq)).2.1⟩) h.apart (by have := ha.2.2.2.2.1; omega)
      simpa using this
theorem bytesT_bounds {most : Int} : ∀ (T : List PkT), (∀ k ∈ T, OkPk most k ∧ k.2 ≠ []) → T.length ≤ bytesT T ∧ (bytesT T : Int) ≤ most * T.length
  | [], _ => by simp [bytesT]
  | k :: T, h => by
    obtain ⟨h1, h2⟩ := bytesT_bounds T (fun q hq => h q (by simp [hq]))
    obtain ⟨h3, h4⟩ := (h k (by simp)).1.bytes (h k (by simp)).2
    have e : bytesT (k :: T) = bytesP k.2 + bytesT T := by simp [bytesT]
    rw [e, List.length_cons]
    refine ⟨by omega, ?_⟩
    rw [Int.natCast_add, Int.natCast_add, Int.mul_add]
    simp; omega
theorem OkT.bytes {many most : Int} {T : List PkT} (h : OkT many most T) : T.length ≤ bytesT T ∧ (bytesT T : Int) ≤ most * T.length := bytesT_bounds T h.ok
theorem OkT.quo {many most : Int} {T : List PkT} (h : OkT many most T) (hn : 0 < T.length) : (bytesT T : Int) / (T.length : Int) ≤ most := by
  have := h.bytes.2
  exact Int.ediv_le_of_le_mul (by omega) this
theorem stepIn_kind (T : List PkT) (i : Nat) (n : NameD) (ps : List PartD) (p : PartD) : ((stepIn T i n ps p).is = true ∧ (stepIn T i n ps p).drop = 0) ∨ ((stepIn T i n ps p).is = false ∧ (stepIn T i n ps p).bs = [] ∧ ((stepIn T i n ps p).drop = 7 ∨ (stepIn T i n ps p).drop = 8)) := by
  unfold stepIn
  split
  · exact .inr ⟨rfl, rfl, .inl rfl⟩
  · split
    · exact .inr ⟨rfl, rfl, .inr rfl⟩
    · split
      · exact .inl ⟨rfl, rfl⟩
      · exact .inr ⟨rfl, rfl, .inl rfl⟩
theorem stepIn_len (T : List PkT) (i : Nat) (n : NameD) (ps : List PartD) (p : PartD) : (stepIn T i n ps p).T.length ≤ T.length := by
  have he := List.length_eraseIdx_le T i
  unfold stepIn
  split
  · exact Nat.le_refl _
  · split
    · exact he
    · split
      · exact he
      · simp
theorem takeS_kind (many most : Int) (T : List PkT) (p : PartD) : ((takeS many most T p).is = true ∧ (takeS many most T p).drop = 0) ∨ ((takeS many most T p).is = false ∧ (takeS many most T p).bs = [] ∧ ((takeS many most T p).drop = 7 ∨ (takeS many most T p).drop = 8)) := by
  unfold takeS
  split
  · exact .inr ⟨rfl, rfl, .inr rfl⟩
  · split
    · exact .inr ⟨rfl, rfl, .inr rfl⟩
    · split
      · exact stepIn_kind ..
      · exact stepIn_kind ..
theorem takeS_len (many most : Int) (T : List PkT) (p : PartD) : (takeS many most T p).T.length ≤ T.length + 1 := by
  unfold takeS
  split
  · exact Nat.le_succ _
  · split
    · exact Nat.le_succ _
    · split
      · exact Nat.le_succ_of_le (stepIn_len ..)
      · refine Nat.le_trans (stepIn_len ..) ?_
        rw [List.length_append]
        have := roomed_len (many := many) (T := T)
        simp; omega
theorem takeS_bad {many most : Int} {T : List PkT} {p : PartD} (h : mayB most p = false) : takeS many most T p = ⟨T, [], false, 8⟩ := by
  unfold takeS
  split
  · rfl
  · first | rfl | rw [if_pos h]
end Go.Proofs.Ytnckmaieghlpmaa
