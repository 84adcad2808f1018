/-
  What a frame that was put, was cut off, or has bytes behind it carries: plain.
-/
import Derived.Test.YtnckmaieghlpmaaLput
import Derived.Test.YtnckmaieghlpmaaUback
import Derived.Test.YtnckmaieghlpmaaLkOpen
namespace Go.Proofs.Ytnckmaieghlpmaa
open Go.RowKit
set_option linter.unusedVariables false

/-- a frame that ends in bytes of no tag -/
theorem run_kind (t : Nat) (P bs : List UInt8) (v : Nat) (hv : v = 4 ∨ v = 6) (p : Nat) (hp : P.length = p) : lkRun t (P ++ (lkKind (v : Int) ++ bs)) p = (v, bs, 0) := by
  have hk : (lkKind (v : Int)).length = 2 := by simp [lkKind, numB_length]
  have hg := getN_mid P (lkKind (v : Int)) bs hk p hp
  have hn : num false (lkKind (v : Int)) = if v = 6 then 34525 else 2048 := by
    rcases hv with rfl | rfl
    · decide +kernel
    · decide +kernel
  rw [hn] at hg
  have hl : ¬ (P ++ (lkKind (v : Int) ++ bs)).length < p + 2 := by simp only [List.length_append, hk, hp]; omega
  rw [lkRun_typed t _ p hl (.inr (by rw [hg]; rcases hv with rfl | rfl <;> simp))]
  have hd : (P ++ (lkKind (v : Int) ++ bs)).drop (p + 2) = bs := by
    rw [← List.append_assoc]
    have : (P ++ lkKind (v : Int)).length = p + 2 := by rw [List.length_append, hk, hp]
    rw [← this, List.drop_left]
  unfold lkTyped
  rw [hg, hd]
  rcases hv with rfl | rfl
  · rw [if_pos (by simp)]
  · rw [if_neg (by simp), if_pos (by simp)]
/-- a tag -/
theorem run_tag (t : Nat) (P K T R : List UInt8) (hK : num false K = 34984 ∨ num false K = 33024) (hKl : K.length = 2) (hT : T.length = 2) (p : Nat) (hp : P.length = p) :
    lkRun (t + 1) (P ++ (K ++ (T ++ R))) p = lkRun t ((P ++ (K ++ T)) ++ R) (p + 4) := by
  have hg := getN_mid P K (T ++ R) hKl p hp
  have hl : ¬ (P ++ (K ++ (T ++ R))).length < p + 2 := by simp only [List.length_append, hKl, hp]; omega
  rw [lkRun_tag t _ p hl (by rw [hg]; exact hK)]
  congr 1
  simp
/-- a third one -/
theorem run_third (P K T R : List UInt8) (hK : num false K = 34984 ∨ num false K = 33024) (hKl : K.length = 2) (p : Nat) (hp : P.length = p) :
    lkRun 0 (P ++ (K ++ (T ++ R))) p = (0, [], 2) := by
  have hg := getN_mid P K (T ++ R) hKl p hp
  have hl : ¬ (P ++ (K ++ (T ++ R))).length < p + 2 := by simp only [List.length_append, hKl, hp]; omega
  rw [lkRun_typed 0 _ p hl (.inl rfl)]
  unfold lkTyped
  rw [hg, if_neg (by omega), if_neg (by omega)]

theorem num_kind : num false (numB false 34984 2) = 34984 ∧ num false (numB false 33024 2) = 33024 := by decide +kernel
theorem tag_kind (c : Bool) : num false (numB false (if c then 34984 else 33024) 2) = 34984 ∨ num false (numB false (if c then 34984 else 33024) 2) = 33024 := by
  cases c
  · exact .inr num_kind.2
  · exact .inl num_kind.1
theorem back_ether (v : Nat) (ts : List Nat) (bs : List UInt8) (hv : v = 4 ∨ v = 6) (ht : ts.length ≤ 2) : lkOpen 1 (lkFrame 1 (v : Int) ts bs) = (v, bs, 0) := by
  unfold lkOpen
  rw [if_neg (by omega), if_pos rfl]
  have h12 : (lkHead 1).length = 12 := rfl
  unfold lkFrame
  match ts, ht with
  | [], _ =>
    have e : lkHead 1 ++ tagsTo [] ([] : List Nat).length ++ lkKind (v : Int) ++ bs = lkHead 1 ++ (lkKind (v : Int) ++ bs) := by simp [tagsTo]
    rw [e]; exact run_kind 2 _ _ v hv 12 h12
  | [a], _ =>
    have e : lkHead 1 ++ tagsTo [a] [a].length ++ lkKind (v : Int) ++ bs = lkHead 1 ++ (numB false 33024 2 ++ (numB false a 2 ++ (lkKind (v : Int) ++ bs))) := by simp [tagsTo, tagAt]
    rw [e, run_tag 1 _ _ _ _ (.inr num_kind.2) (numB_length ..) (numB_length ..) 12 h12]
    exact run_kind 1 _ _ v hv 16 (by simp [h12, numB_length])
  | [a, b], _ =>
    have e : lkHead 1 ++ tagsTo [a, b] [a, b].length ++ lkKind (v : Int) ++ bs = lkHead 1 ++ (numB false 34984 2 ++ (numB false a 2 ++ (numB false 33024 2 ++ (numB false b 2 ++ (lkKind (v : Int) ++ bs))))) := by simp [tagsTo, tagAt]
    rw [e, run_tag 1 _ _ _ _ (.inl num_kind.1) (numB_length ..) (numB_length ..) 12 h12, run_tag 0 _ _ _ _ (.inr num_kind.2) (numB_length ..) (numB_length ..) 16 (by simp [h12, numB_length])]
    exact run_kind 0 _ _ v hv 20 (by simp [h12, numB_length])
  | a :: b :: c :: r, h => simp at h
theorem frame_len (v : Int) (ts : List Nat) (bs : List UInt8) : (lkFrame 1 v ts bs).length = 14 + 4 * ts.length + bs.length := by
  have h12 : (lkHead 1).length = 12 := rfl
  simp only [lkFrame, List.length_append, tagsTo_len, lkKind, numB_length, h12]; omega
/-- what Put makes is opened as it was -/
theorem back_link (l v : Nat) (ts : List Nat) (bs X : List UInt8) (hv : v = 4 ∨ v = 6) (hX : lkPut l (v : Int) ts bs = (X, 0)) : lkOpen l X = (v, bs, 0) := by
  unfold lkPut at hX
  split at hX
  · cases hX
  rename_i h1
  split at hX
  · rename_i h2
    subst h2
    split at hX
    · cases hX
    rename_i h3
    simp only [Prod.mk.injEq, and_true] at hX
    subst hX
    unfold lkOpen
    rw [if_pos rfl]
    cases bs with
    | nil => exact absurd (.inl rfl) h3
    | cons x r =>
      have h4 : ((x.toNat / 16 : Nat) : Int) = (v : Int) := by
        by_cases h : firstHalf (x :: r) = (v : Int)
        · exact h
        · exact absurd (.inr h) h3
      have h5 : x.toNat / 16 = v := by omega
      simp only [lkRaw]
      rw [h5, if_pos hv]
  rename_i h2
  split at hX
  · rename_i h3
    subst h3
    simp only [Prod.mk.injEq, and_true] at hX
    subst hX
    unfold lkOpen
    rw [if_neg (by omega), if_neg (by omega), if_pos rfl]
    have e : lkFrame 113 (v : Int) [] bs = lkHead 113 ++ (lkKind (v : Int) ++ bs) := by simp [lkFrame, tagsTo]
    rw [e]; exact run_kind 0 _ _ v hv 14 rfl
  split at hX
  · cases hX
  rename_i h3 h4
  split at hX
  · cases hX
  rename_i h5
  simp only [Prod.mk.injEq, and_true] at hX
  subst hX
  have h6 : l = 1 := by omega
  subst h6
  exact back_ether v ts bs hv (by omega)
theorem put_small (l : Nat) (v : Int) (ts : List Nat) (bs : List UInt8) : (lkPut l v ts bs).2 ≤ 3 ∧ ((lkPut l v ts bs).2 ≠ 0 → (lkPut l v ts bs).1 = []) := by
  unfold lkPut
  split
  · simp
  split
  · split <;> simp
  split
  · simp
  split
  · simp
  split <;> simp
theorem put_ether (v : Nat) (ts : List Nat) (bs : List UInt8) (hv : v = 4 ∨ v = 6) (ht : ts.length ≤ 2) : lkPut 1 (v : Int) ts bs = (lkFrame 1 (v : Int) ts bs, 0) := by
  unfold lkPut
  rw [if_neg (by omega), if_neg (by omega), if_neg (by omega), if_neg (by omega), if_neg (by omega)]
theorem put_noether (l : Nat) (v : Int) (ts : List Nat) (bs X : List UInt8) (hl : l ≠ 1) (hX : lkPut l v ts bs = (X, 0)) : ts.length = 0 := by
  unfold lkPut at hX
  split at hX
  · cases hX
  · rename_i h
    by_cases ht : ts = []
    · rw [ht]; rfl
    · exact absurd (.inr ⟨ht, hl⟩) h
theorem put_great (v : Nat) (ts : List Nat) (bs : List UInt8) (hv : v = 4 ∨ v = 6) (ht : 2 < ts.length) : lkPut 1 (v : Int) ts bs = ([], 3) := by
  unfold lkPut
  rw [if_neg (by omega), if_neg (by omega), if_neg (by omega), if_neg (by omega), if_pos ht]

/-- bytes behind -/
theorem typed_more (b more : List UInt8) (p : Nat) (h : ¬ b.length < p + 2) : lkTyped (b ++ more) p = ((lkTyped b p).1, if (lkTyped b p).2.2 = 0 then (lkTyped b p).2.1 ++ more else [], (lkTyped b p).2.2) ∧ ((lkTyped b p).2.2 ≠ 0 → (lkTyped b p).1 = 0 ∧ (lkTyped b p).2.1 = []) := by
  have hg : getN false (b ++ more) p 2 = getN false b p 2 := getN_app b more p (by omega)
  have hd : (b ++ more).drop (p + 2) = b.drop (p + 2) ++ more := List.drop_append_of_le_length (by omega)
  unfold lkTyped
  rw [hg, hd]
  split
  · simp
  · split <;> simp
theorem run_more (t : Nat) : ∀ (b more : List UInt8) (p : Nat), (lkRun t b p).2.2 ≠ 3 → lkRun t (b ++ more) p = ((lkRun t b p).1, if (lkRun t b p).2.2 = 0 then (lkRun t b p).2.1 ++ more else [], (lkRun t b p).2.2) ∧ ((lkRun t b p).2.2 ≠ 0 → (lkRun t b p).1 = 0 ∧ (lkRun t b p).2.1 = []) := by
  induction t with
  | zero =>
    intro b more p h
    by_cases hl : b.length < p + 2
    · rw [lkRun_short 0 b p hl] at h; simp at h
    · have hl2 : ¬ (b ++ more).length < p + 2 := by rw [List.length_append]; omega
      rw [lkRun_typed 0 b p hl (.inl rfl), lkRun_typed 0 _ p hl2 (.inl rfl)]
      exact typed_more b more p hl
  | succ t ih =>
    intro b more p h
    by_cases hl : b.length < p + 2
    · rw [lkRun_short (t + 1) b p hl] at h; simp at h
    · have hl2 : ¬ (b ++ more).length < p + 2 := by rw [List.length_append]; omega
      have hg : getN false (b ++ more) p 2 = getN false b p 2 := getN_app b more p (by omega)
      by_cases hk : getN false b p 2 = 34984 ∨ getN false b p 2 = 33024
      · rw [lkRun_tag t b p hl hk] at h ⊢
        rw [lkRun_tag t _ p hl2 (by rw [hg]; exact hk)]
        exact ih b more (p + 4) h
      · rw [lkRun_typed (t + 1) b p hl (.inr hk), lkRun_typed (t + 1) _ p hl2 (.inr (by rw [hg]; exact hk))]
        exact typed_more b more p hl
theorem open_more (l : Nat) (b more : List UInt8) (h : (lkOpen l b).2.2 ≠ 3) : lkOpen l (b ++ more) = ((lkOpen l b).1, if (lkOpen l b).2.2 = 0 then (lkOpen l b).2.1 ++ more else [], (lkOpen l b).2.2) ∧ ((lkOpen l b).2.2 ≠ 0 → (lkOpen l b).1 = 0 ∧ (lkOpen l b).2.1 = []) := by
  unfold lkOpen at h ⊢
  by_cases h1 : l = 101
  · simp only [if_pos h1] at h ⊢
    cases b with
    | nil => simp [lkRaw] at h
    | cons x r =>
      simp only [lkRaw, List.cons_append]
      split <;> simp
  · simp only [if_neg h1] at h ⊢
    by_cases h2 : l = 1
    · simp only [if_pos h2] at h ⊢; exact run_more 2 b more 12 h
    · simp only [if_neg h2] at h ⊢
      by_cases h3 : l = 113
      · simp only [if_pos h3] at h ⊢; exact run_more 0 b more 14 h
      · simp only [if_neg h3]; simp
theorem run_short0 (t : Nat) : ∀ (b : List UInt8) (p : Nat), (lkRun t b p).2.2 = 3 → (lkRun t b p).1 = 0 ∧ (lkRun t b p).2.1 = [] := by
  induction t with
  | zero =>
    intro b p h
    rw [lkRun] at h ⊢
    split
    · simp
    · rename_i hl; rw [if_neg hl] at h; unfold lkTyped at h ⊢; split at h <;> (try split at h) <;> simp_all
  | succ t ih =>
    intro b p h
    rw [lkRun] at h ⊢
    split
    · simp
    · rename_i hl
      rw [if_neg hl] at h
      split
      · rename_i hk; rw [if_pos hk] at h; exact ih _ _ h
      · rename_i hk; rw [if_neg hk] at h; unfold lkTyped at h ⊢; split at h <;> (try split at h) <;> simp_all
theorem open_short (l : Nat) (b : List UInt8) (h : (lkOpen l b).2.2 = 3) : (lkOpen l b).1 = 0 ∧ (lkOpen l b).2.1 = [] := by
  unfold lkOpen at h ⊢
  by_cases h1 : l = 101
  · simp only [if_pos h1] at h ⊢
    cases b with
    | nil => simp [lkRaw]
    | cons x r => simp only [lkRaw] at h ⊢; split at h <;> simp at h
  · simp only [if_neg h1] at h ⊢
    by_cases h2 : l = 1
    · simp only [if_pos h2] at h ⊢; exact run_short0 2 b 12 h
    · simp only [if_neg h2] at h ⊢
      by_cases h3 : l = 113
      · simp only [if_pos h3] at h ⊢; exact run_short0 0 b 14 h
      · simp only [if_neg h3] at h ⊢; simp
/-- cut off -/
theorem open_cut (l : Nat) (b : List UInt8) (n : Nat) (v : Nat) (c : List UInt8) (h : lkOpen l b = (v, c, 0)) (hf : (lkOpen l (b.take n)).2.2 ≠ 3) (hn : n ≤ b.length) :
    ∃ z, lkOpen l (b.take n) = (v, z, 0) ∧ c = z ++ b.drop n ∧ z.length + (b.length - n) = c.length := by
  have q := (open_more l (b.take n) (b.drop n) hf).1
  rw [List.take_append_drop, h] at q
  simp only [Prod.mk.injEq] at q
  obtain ⟨q1, q2, q3⟩ := q
  rw [if_pos q3.symm] at q2
  refine ⟨(lkOpen l (b.take n)).2.1, ?_, q2, ?_⟩
  · rw [q1, q3]
  · rw [q2]; simp
end Go.Proofs.Ytnckmaieghlpmaa
