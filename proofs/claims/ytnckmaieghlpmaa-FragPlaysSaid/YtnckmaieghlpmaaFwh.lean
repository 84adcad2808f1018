/-
  The plain law of FragWhole: parts of one packet, in whatever order they come.
-/
import Derived.Test.YtnckmaieghlpmaaZ8
import Derived.Test.YtnckmaieghlpmaaFspec2
namespace Go.Proofs.Ytnckmaieghlpmaa
open Go.RowKit
set_option linter.unusedVariables false

/-- a packet's bytes, parted: in their order, none missing -/
structure Parted (most : Int) (n : NameD) (b : List UInt8) (L : List PartD) : Prop where
  nm : ∀ q ∈ L, q.nm = n
  may : ∀ q ∈ L, mayB most q = true
  apart : L.Pairwise Ahead
  whole : wholeB L = true
  join : joinB L = b
theorem noGap_fin : ∀ (L : List PartD) (c : Int), noGap c L = true → L ≠ [] → ∃ q, L.getLast? = some q ∧ q.fin = c + (bytesP L : Int)
  | [], c, _, h => absurd rfl h
  | a :: l, c, hg, _ => by
    unfold noGap at hg
    simp only [Bool.and_eq_true, decide_eq_true_eq] at hg
    have e : bytesP (a :: l) = a.bs.length + bytesP l := by simp [bytesP]
    cases l with
    | nil => exact ⟨a, rfl, by rw [e]; unfold PartD.fin; simp [bytesP]; omega⟩
    | cons a' l' =>
      obtain ⟨q, hq, hf⟩ := noGap_fin (a' :: l') a.fin hg.2 (by simp)
      refine ⟨q, by rw [List.getLast?_cons_cons]; exact hq, ?_⟩
      rw [hf, e]; unfold PartD.fin; omega
theorem whole_last {L : List PartD} (h : wholeB L = true) : L ≠ [] ∧ ∃ q ∈ L, q.more = false ∧ q.fin = (bytesP L : Int) := by
  unfold wholeB at h
  simp only [Bool.and_eq_true, Bool.not_eq_true'] at h
  have hne : L ≠ [] := fun e => by rw [e] at h; simp [lastMore] at h
  obtain ⟨q, hq, hf⟩ := noGap_fin L 0 h.1 hne
  refine ⟨hne, q, List.mem_of_getLast? hq, ?_, by omega⟩
  have := h.2
  unfold lastMore at this
  rw [hq] at this
  simpa using this
theorem bytesP_perm {L M : List PartD} (h : L.Perm M) : bytesP L = bytesP M := (h.map _).sum_nat
theorem bytesP_join (L : List PartD) : (joinB L).length = bytesP L := by
  unfold joinB bytesP
  rw [List.length_flatMap]
theorem ahead_irrefl {most : Int} {q : PartD} (h : mayB most q = true) : ¬ Ahead q q := fun e => by
  have := PartD.pos_lt h; have := e.1; omega
theorem ahead_asymm {most : Int} {p q : PartD} (hp : mayB most p = true) (hq : mayB most q = true) (h : Ahead p q) : ¬ Ahead q p := fun e => by
  have := PartD.pos_lt hp; have := PartD.pos_lt hq; have := e.1; have := h.1; omega
/-- two lists in order that hold the same are one -/
theorem ahead_unique {most : Int} : ∀ {L M : List PartD}, L.Perm M → L.Pairwise Ahead → M.Pairwise Ahead → (∀ q ∈ L, mayB most q = true) → L = M
  | [], M, h, _, _, _ => (List.Perm.nil_eq h)
  | a :: l, [], h, _, _, _ => by have := h.length_eq; simp at this
  | a :: l, c :: m, h, h1, h2, hm => by
    obtain ⟨a1, a2⟩ := List.pairwise_cons.1 h1
    obtain ⟨c1, c2⟩ := List.pairwise_cons.1 h2
    have hac : a = c := by
      have ha : a ∈ c :: m := h.subset (by simp)
      have hc : c ∈ a :: l := h.symm.subset (by simp)
      rcases List.mem_cons.1 ha with e | ha
      · exact e
      · rcases List.mem_cons.1 hc with e | hc
        · exact e.symm
        · exact absurd (c1 a ha) (ahead_asymm (hm a (by simp)) (hm c (by simp [hc])) (a1 c hc))
    subst hac
    rw [ahead_unique (List.Perm.cons_inv h) a2 c2 (fun q hq => hm q (by simp [hq]))]
/-- two parts of one packet -/
theorem ahead_or {L : List PartD} (h : L.Pairwise Ahead) {p q : PartD} (hp : p ∈ L) (hq : q ∈ L) (hne : p ≠ q) : Ahead p q ∨ Ahead q p := by
  obtain ⟨i, hi⟩ := List.getElem?_of_mem hp
  obtain ⟨j, hj⟩ := List.getElem?_of_mem hq
  obtain ⟨hi', rfl⟩ := List.getElem?_eq_some_iff.1 hi
  obtain ⟨hj', rfl⟩ := List.getElem?_eq_some_iff.1 hj
  rcases Nat.lt_trichotomy i j with h1 | h1 | h1
  · exact .inl (List.pairwise_iff_getElem.1 h i j hi' hj' h1)
  · subst h1; exact absurd rfl hne
  · exact .inr (List.pairwise_iff_getElem.1 h j i hj' hi' h1)
theorem no_same {most : Int} {p q : PartD} (hp : mayB most p = true) (hq : mayB most q = true) (h : Ahead p q ∨ Ahead q p) : sameB p q = false := by
  unfold sameB
  refine decide_eq_false (fun e => ?_)
  have := PartD.pos_lt hp; have := PartD.pos_lt hq
  rcases h with h | h <;> (have := h.1; have := e.1; omega)
theorem no_clash {most : Int} {p q : PartD} (hp : mayB most p = true) (hq : mayB most q = true) (h : Ahead p q ∨ Ahead q p) : clashB p q = false := by
  have h1 := PartD.pos_lt hp
  have h2 := PartD.pos_lt hq
  unfold clashB
  rcases h with h | h
  · have h3 := h.1
    have e1 : decide (q.pos < p.fin) = false := by simp; omega
    have e2 : decide (q.fin < p.fin) = false := by simp; omega
    rw [e1, e2, h.2]; simp
  · have h3 := h.1
    have e1 : decide (p.pos < q.fin) = false := by simp; omega
    have e2 : decide (p.fin < q.fin) = false := by simp; omega
    rw [e1, e2, h.2]; simp
/-- some of a packet's parts, but not all, are not whole -/
theorem Parted.part {most : Int} {n : NameD} {b : List UInt8} {L : List PartD} (h : Parted most n b L) {qs rest : List PartD} (hp : (qs ++ rest).Perm L) (hr : rest ≠ []) : wholeB qs = false := by
  rcases hw : wholeB qs with _ | _
  · rfl
  · exfalso
    obtain ⟨hne, q, hq, hmore, hfin⟩ := whole_last hw
    obtain ⟨_, q', hq', hmore', hfin'⟩ := whole_last h.whole
    have hqL : q ∈ L := hp.subset (by simp [hq])
    have : q = q' := by
      by_cases e : q = q'
      · exact e
      · rcases ahead_or h.apart hqL hq' e with a | a
        · have := a.2; rw [hmore] at this; cases this
        · have := a.2; rw [hmore'] at this; cases this
    subst this
    have h1 := bytesP_perm hp
    have h2 : bytesP (qs ++ rest) = bytesP qs + bytesP rest := by simp [bytesP]
    obtain ⟨c, l, rfl⟩ := List.exists_cons_of_ne_nil hr
    have h3 := (may_spec (h.may c (hp.subset (by simp)))).1
    have h4 : bytesP (c :: l) = c.bs.length + bytesP l := by simp [bytesP]
    omega
theorem Parted.all {most : Int} {n : NameD} {b : List UInt8} {L : List PartD} (h : Parted most n b L) {qs : List PartD} (hp : qs.Perm L) (ha : qs.Pairwise Ahead) : qs = L :=
  ahead_unique hp ha h.apart (fun q hq => h.may q (hp.subset hq))
/-- a part that is new comes to some of the others -/
theorem Parted.step {most : Int} {n : NameD} {b : List UInt8} {L : List PartD} (h : Parted most n b L) {ps rest : List PartD} {p : PartD} (hp : (ps ++ p :: rest).Perm L) (ha : ps.Pairwise Ahead) (T : List PkT) (i : Nat) (m : NameD) :
    (insPt p ps).Pairwise Ahead ∧ (insPt p ps ++ rest).Perm L ∧ stepIn T i m ps p = (if rest = [] then ⟨T.eraseIdx i, b, true, 0⟩ else ⟨T.set i (m, insPt p ps), [], false, 7⟩) := by
  have hpL : p ∈ L := hp.subset (by simp)
  have hnd : (ps ++ p :: rest).Nodup := hp.nodup_iff.2 (h.apart.imp_of_mem (fun {a c} ha hc hac => fun e => by subst e; exact ahead_irrefl (h.may a ha) hac))
  have hor : ∀ q ∈ ps, Ahead p q ∨ Ahead q p := fun q hq => ahead_or h.apart hpL (hp.subset (by simp [hq])) (fun e => by
    subst e
    have := List.nodup_append.1 hnd
    exact (this.2.2 p hq p (by simp)) rfl)
  have hms : ∀ q ∈ ps, mayB most q = true := fun q hq => h.may q (hp.subset (by simp [hq]))
  have hsame : ps.any (sameB p) = false := by
    rw [List.any_eq_false]
    intro q hq
    rw [no_same (h.may p hpL) (hms q hq) (hor q hq)]; simp
  have hcl : ps.any (clashB p) = false := by
    rw [List.any_eq_false]
    intro q hq
    rw [no_clash (h.may p hpL) (hms q hq) (hor q hq)]; simp
  have h1 := insPt_apart (h.may p hpL) hms ha hcl
  have h2 : (insPt p ps ++ rest).Perm L := ((insPt_perm p ps).append_right rest).trans (((List.perm_middle (l₁ := ps) (a := p) (l₂ := rest)).symm).trans hp)
  refine ⟨h1, h2, ?_⟩
  unfold stepIn
  rw [if_neg (by rw [hsame]; simp), if_neg (by rw [hcl]; simp)]
  by_cases hr : rest = []
  · subst hr
    rw [List.append_nil] at h2
    have := h.all h2 h1
    rw [this, if_pos h.whole, if_pos rfl, h.join]
  · rw [if_neg (by rw [h.part h2 hr]; simp), if_neg hr]
/-- a part that is there already -/
theorem same_again {T : List PkT} {i : Nat} {m : NameD} {ps : List PartD} {p : PartD} (hp : p ∈ ps) : stepIn T i m ps p = ⟨T, [], false, 7⟩ := by
  unfold stepIn
  rw [if_pos (List.any_eq_true.2 ⟨p, hp, by simp [sameB]⟩)]

/-- the table behind some of the parts -/
def oneT (n : NameD) (ps : List PartD) : List PkT := if ps = [] then [] else [(n, ps)]
theorem takeS_one {many most : Int} {n : NameD} {ps : List PartD} {p : PartD} (hm : 1 ≤ many) (hmay : mayB most p = true) (hn : p.nm = n) : takeS many most (oneT n ps) p = stepIn [(n, ps)] 0 n ps p := by
  unfold takeS
  rw [if_neg (by omega), if_neg (by rw [hmay]; simp)]
  unfold oneT
  by_cases he : ps = []
  · subst he
    rw [if_pos rfl]
    have hf : findPk [] p.nm = none := rfl
    rw [hf]
    have hr : roomed many ([] : List PkT) = [] := by unfold roomed; split <;> rfl
    simp only [hr, hn]
    rfl
  · rw [if_neg he]
    have hf : findPk [(n, ps)] p.nm = some 0 := by
      unfold findPk
      rw [List.findIdx?_cons]
      exact if_pos (decide_eq_true hn.symm)
    rw [hf, hn]
    rfl
theorem Parted.take {many most : Int} {n : NameD} {b : List UInt8} {L : List PartD} (h : Parted most n b L) (hm : 1 ≤ many) {ps rest : List PartD} {p : PartD} (hp : (ps ++ p :: rest).Perm L) (ha : ps.Pairwise Ahead) :
    takeS many most (oneT n ps) p = (if rest = [] then ⟨[], b, true, 0⟩ else ⟨oneT n (insPt p ps), [], false, 7⟩) ∧ (insPt p ps).Pairwise Ahead ∧ (insPt p ps ++ rest).Perm L ∧ bytesP (insPt p ps) = bytesP ps + p.bs.length := by
  have hpL : p ∈ L := hp.subset (by simp)
  obtain ⟨h1, h2, h3⟩ := h.step hp ha [(n, ps)] 0 n
  refine ⟨?_, h1, h2, ?_⟩
  · rw [takeS_one hm (h.may p hpL) (h.nm p hpL), h3]
    by_cases hr : rest = []
    · rw [if_pos hr, if_pos hr]; rfl
    · rw [if_neg hr, if_neg hr]
      unfold oneT
      rw [if_neg (by intro e; have := insPt_length p ps; rw [e] at this; simp at this)]
      rfl
  · rw [bytesP_perm (insPt_perm p ps)]
    simp [bytesP]; omega
theorem Parted.again {many most : Int} {n : NameD} {b : List UInt8} {L : List PartD} (h : Parted most n b L) (hm : 1 ≤ many) {ps : List PartD} {p : PartD} (hpL : p ∈ L) (hp : p ∈ ps) : takeS many most (oneT n ps) p = ⟨oneT n ps, [], false, 7⟩ := by
  rw [takeS_one hm (h.may p hpL) (h.nm p hpL), same_again hp]
  unfold oneT
  rw [if_neg (by intro e; rw [e] at hp; cases hp)]
end Go.Proofs.Ytnckmaieghlpmaa
