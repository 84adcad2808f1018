/-
  The law FragWhole: a packet's parts, in whatever order they come, tell it whole.
-/
import Derived.Test.YtnckmaieghlpmaaPcut
import Derived.Test.YtnckmaieghlpmaaLawFown
namespace Go.Proofs.Ytnckmaieghlpmaa
open Go.RowKit
set_option linter.unusedVariables false
set_option linter.unusedSimpArgs false
attribute [local go_sem ↓] fold_ld54 fold_st54 fold_ld90 fold_st90 fold_ld121 fold_st121 fold_ld124 fold_st124 Go.wp_at_zero Go.wp_at_succ
attribute [local go_sem] ld54_at st54_at ld90_at st90_pt ld121_at st121_nm ld124_at free_new1 bx36 bx37 bx38 bxhas bxrd

def guardW (many most : Int) (lb ls lw : Nat) : Bool := decide (many < 1) || decide (most < lb) || decide (lb = 0) || decide (1000 < lb) || decide (60 < ls) || decide (60 < lw)
theorem guardW_no {many most : Int} {lb ls lw : Nat} (h : guardW many most lb ls lw = false) : 1 ≤ many ∧ (lb : Int) ≤ most ∧ 0 < lb ∧ lb ≤ 1000 ∧ ls ≤ 60 ∧ lw ≤ 60 := by
  unfold guardW at h
  simp only [Bool.or_eq_false_iff, decide_eq_false_iff_not] at h
  omega
/-- parts still to come, and a table with those that came -/
structure WhS (W : World) (F : Nat) (many most : Int) (n : NameD) (b : List UInt8) (v : Value) (k base : Nat) (L : List (PartD × Value)) (j : Nat) (by_ : Nat) (wr : World) : Prop where
  row : RowP wr base v k L
  bs : ∀ z ∈ L, Bs W z.2 z.1.bs
  tab : ∃ ps M m, m ≤ 2 * j ∧ by_ = bytesP ps ∧ ps.Pairwise Ahead ∧ (ps ++ (L.map (·.1)).drop j).Perm (L.map (·.1)) ∧ KS W W.heap.size wr M F many most (oneT n ps) m ∧ ∀ q, v.ownBlock = some q → ¬ M q
theorem drop_one {L : List (PartD × Value)} {j : Nat} {x : PartD × Value} (h : L[j]? = some x) : (L.map (·.1)).drop j = x.1 :: (L.map (·.1)).drop (j + 1) := by
  have hj := (List.getElem?_eq_some_iff.1 h).1
  rw [List.drop_eq_getElem_cons (by simpa using hj)]
  congr 1
  rw [List.getElem_map]
  rw [List.getElem?_eq_getElem hj] at h
  cases h; rfl
theorem oneT_len {n : NameD} {p : PartD} {ps : List PartD} : (oneT n (insPt p ps)).length = 1 ∧ bytesT (oneT n (insPt p ps)) = bytesP (insPt p ps) := by
  have hne : insPt p ps ≠ [] := fun e => by have := insPt_length p ps; rw [e] at this; simp at this
  unfold oneT
  rw [if_neg hne]
  exact ⟨rfl, by simp [bytesT]⟩
theorem RowP.only {w w' : World} {base n : Nat} {v : Value} {L : List (PartD × Value)} {N : Nat → Prop} (h : RowP w base v n L) (ho : Only N w w') (hn : ∀ q, v.ownBlock = some q → ¬ N q) : RowP w' base v n L :=
  h.keep (fun q hq => ho.block q (World.ownsRow.lt h.own q hq).2 (hn q hq))
theorem bytesP_mem : ∀ {L : List PartD} {q : PartD}, q ∈ L → q.bs.length ≤ bytesP L
  | a :: l, q, h => by
    have e : bytesP (a :: l) = a.bs.length + bytesP l := by simp [bytesP]
    rw [e]
    rcases List.mem_cons.1 h with rfl | h
    · omega
    · have := bytesP_mem h; omega
theorem cut_few {sizes : List UInt8} {k n : Nat} (h : ∀ j, j < k → posAt sizes j < n) (hn : n ≤ 1000) : k ≤ 126 := by
  rcases Nat.lt_or_ge 126 k with h1 | h1
  · have h2 := h 126 h1
    have h3 := (posAt_mod sizes 126).2
    omega
  · exact h1
end Go.Proofs.Ytnckmaieghlpmaa
