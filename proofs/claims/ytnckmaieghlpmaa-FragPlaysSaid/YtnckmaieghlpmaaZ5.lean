/-
  The table in memory.
  The plain law of a table of packets' parts: what Take does to it.
  The walk of udp.ahead, of either version.
  The walk of udp.sum.
  The walk of horologeref07.Put.
  append to a slice of the call's own, the new list under a name of its own; what calls of Put leave, likewise.
  The walks of horologeref18.number and horologeref18.ahead.
  The walks of slices.Clone and slices.Reverse at bytes.
  The walk of udp.Put.
  Both ends of a datagram as values in memory: built, stored, read whole.
-/
import Derived.Test.YtnckmaieghlpmaaZ4
import Derived.Test.YtnckmaieghlpmaaPbs
import Derived.Test.YtnckmaieghlpmaaPmay
import Derived.Test.YtnckmaieghlpmaaZ1
import Derived.BigRegion
import Derived.Deep.RegionHeld3
import Derived.Deep.DeepCutAuto
import Derived.Deep.WholeRow
namespace Go.Proofs.Ytnckmaieghlpmaa
open Go.RowKit
set_option linter.unusedVariables false

theorem flat_at {α β : Type} (f : α → List β) (s : Nat) : ∀ (L : List α) (h : ∀ x ∈ L, (f x).length = s) (i j : Nat) (x : α), L[i]? = some x → j < s → (L.flatMap f)[i * s + j]? = (f x)[j]?
  | [], _, i, j, x, hx, _ => by simp at hx
  | y :: L, h, 0, j, x, hx, hj => by
    simp at hx; subst hx
    rw [List.flatMap_cons, Nat.zero_mul, Nat.zero_add, List.getElem?_append_left (by rw [h y (by simp)]; exact hj)]
  | y :: L, h, i + 1, j, x, hx, hj => by
    rw [List.flatMap_cons, List.getElem?_append_right (by rw [h y (by simp), Nat.succ_mul]; omega), h y (by simp), show (i + 1) * s + j - s = i * s + j by rw [Nat.succ_mul]; omega]
    exact flat_at f s L (fun z hz => h z (by simp [hz])) i j x (by simpa using hx) hj
theorem flat_len {α β : Type} (f : α → List β) (s : Nat) : ∀ (L : List α) (h : ∀ x ∈ L, (f x).length = s), (L.flatMap f).length = L.length * s
  | [], _ => by simp
  | y :: L, h => by
    rw [List.flatMap_cons, List.length_append, h y (by simp), flat_len f s L (fun z hz => h z (by simp [hz])), List.length_cons, Nat.succ_mul]; omega
theorem flat_take {α β : Type} (f : α → List β) (s : Nat) : ∀ (L : List α) (h : ∀ x ∈ L, (f x).length = s) (i : Nat), (L.flatMap f).take (i * s) = (L.take i).flatMap f
  | [], _, i => by simp
  | y :: L, h, 0 => by simp
  | y :: L, h, i + 1 => by
    rw [List.flatMap_cons, List.take_succ_cons, List.flatMap_cons, List.take_append, h y (by simp), List.take_of_length_le (by rw [h y (by simp), Nat.succ_mul]; omega), show (i + 1) * s - s = i * s by rw [Nat.succ_mul]; omega, flat_take f s L (fun z hz => h z (by simp [hz]))]
theorem flat_drop {α β : Type} (f : α → List β) (s : Nat) : ∀ (L : List α) (h : ∀ x ∈ L, (f x).length = s) (i : Nat), (L.flatMap f).drop (i * s) = (L.drop i).flatMap f
  | [], _, i => by simp
  | y :: L, h, 0 => by simp
  | y :: L, h, i + 1 => by
    rw [List.flatMap_cons, List.drop_succ_cons, List.drop_append, h y (by simp), List.drop_eq_nil_of_le (by rw [h y (by simp), Nat.succ_mul]; omega), show (i + 1) * s - s = i * s by rw [Nat.succ_mul]; omega, flat_drop f s L (fun z hz => h z (by simp [hz]))]
    simp

def pkRow (L : List (NameD × Value)) : List Value := L.flatMap fun x => pkL x.1 x.2
def ptRow (L : List (PartD × Value)) : List Value := L.flatMap fun x => partL x.1 x.2

theorem pks_of_own {w : World} {base : Nat} {v : Value} {L : List (NameD × Value)} (hok : ∀ x ∈ L, x.1.ok) (h : w.ownsRow base 124 37 v L.length (pkRow L)) : ∃ a c, v = .slice a L.length c ∧ L.length ≤ c ∧ c ≤ maxLen ∧ PksAt w a L := by
  have hs : ∀ x ∈ L, (pkL x.1 x.2).length = 37 := fun x hx => pkL_len (hok x hx) _
  rcases h.2 with ⟨rfl, hn⟩ | ⟨g, cap, cur, rfl, hbg, hg, hnc, hcm, hcs, htake⟩
  · exact ⟨none, 0, by rw [hn], by omega, Nat.zero_le _, .inl (List.eq_nil_of_length_eq_zero hn)⟩
  · refine ⟨_, _, rfl, hnc, hcm, .inr ⟨g, 0, rfl, fun i x hx j u hu => ?_⟩⟩
    have hj : j < 37 := by have := (List.getElem?_eq_some_iff.1 hu).1; rwa [hs x (List.mem_of_getElem? hx)] at this
    have := flat_at (fun x : NameD × Value => pkL x.1 x.2) 37 L hs i j x hx hj
    have hc := h.cells (g := g) rfl (i * 37 + j) u (this.trans hu)
    rw [Addr.add_lit] at hc
    rwa [show 0 + i * 37 + j = 0 + (i * 37 + j) by omega]
theorem ps_of_own {w : World} {base : Nat} {v : Value} {L : List (PartD × Value)} (hok : ∀ x ∈ L, x.1.nm.ok) (h : w.ownsRow base 90 39 v L.length (ptRow L)) : ∃ a c, v = .slice a L.length c ∧ L.length ≤ c ∧ c ≤ maxLen ∧ PsAt w a L := by
  have hs : ∀ x ∈ L, (partL x.1 x.2).length = 39 := fun x hx => partL_len (hok x hx) _
  rcases h.2 with ⟨rfl, hn⟩ | ⟨g, cap, cur, rfl, hbg, hg, hnc, hcm, hcs, htake⟩
  · exact ⟨none, 0, by rw [hn], by omega, Nat.zero_le _, .inl (List.eq_nil_of_length_eq_zero hn)⟩
  · refine ⟨_, _, rfl, hnc, hcm, .inr ⟨g, 0, rfl, fun i x hx j u hu => ?_⟩⟩
    have hj : j < 39 := by have := (List.getElem?_eq_some_iff.1 hu).1; rwa [hs x (List.mem_of_getElem? hx)] at this
    have := flat_at (fun x : PartD × Value => partL x.1 x.2) 39 L hs i j x hx hj
    have hc := h.cells (g := g) rfl (i * 39 + j) u (this.trans hu)
    rw [Addr.add_lit] at hc
    rwa [show 0 + i * 39 + j = 0 + (i * 39 + j) by omega]
end Go.Proofs.Ytnckmaieghlpmaa
namespace Go.Proofs.Ytnckmaieghlpmaa
open Go.RowKit
set_option linter.unusedVariables false

abbrev PkT := NameD × List PartD
def insI (pos : Int) (ps : List PartD) : Nat := ps.findIdx fun x => decide (pos ≤ x.pos)
def insPt (p : PartD) (ps : List PartD) : List PartD := ps.take (insI p.pos ps) ++ p :: ps.drop (insI p.pos ps)
def noGap : Int → List PartD → Bool
  | _, [] => true
  | n, q :: r => decide (q.pos = n) && noGap q.fin r
def lastMore (ps : List PartD) : Bool := (ps.getLast?.map (·.more)).getD true
def wholeB (ps : List PartD) : Bool := noGap 0 ps && !lastMore ps
def joinB (ps : List PartD) : List UInt8 := ps.flatMap (·.bs)
structure Res where
  T : List PkT
  bs : List UInt8
  is : Bool
  drop : Nat
def stepIn (T : List PkT) (i : Nat) (n : NameD) (ps : List PartD) (p : PartD) : Res :=
  if ps.any (sameB p) = true then ⟨T, [], false, 7⟩
  else if ps.any (clashB p) = true then ⟨T.eraseIdx i, [], false, 8⟩
  else if wholeB (insPt p ps) = true then ⟨T.eraseIdx i, joinB (insPt p ps), true, 0⟩
  else ⟨T.set i (n, insPt p ps), [], false, 7⟩
def findPk (T : List PkT) (n : NameD) : Option Nat := T.findIdx? fun k => decide (k.1 = n)
def psAt (T : List PkT) (i : Nat) : List PartD := (T[i]?.map (·.2)).getD []
def roomed (many : Int) (T : List PkT) : List PkT := if many ≤ T.length then T.eraseIdx 0 else T
def takeS (many most : Int) (T : List PkT) (p : PartD) : Res :=
  if many < 1 then ⟨T, [], false, 8⟩
  else if mayB most p = false then ⟨T, [], false, 8⟩
  else match findPk T p.nm with
    | some i => stepIn T i p.nm (psAt T i) p
    | none => stepIn (roomed many T ++ [(p.nm, [])]) (roomed many T).length p.nm [] p

/-! what a table keeps -/
theorem may_spec {most : Int} {p : PartD} (h : mayB most p = true) : 0 < p.bs.length ∧ 0 ≤ p.pos ∧ p.pos % 8 = 0 ∧ (p.more = false ∨ p.bs.length % 8 = 0) ∧ (p.bs.length : Int) ≤ most ∧ p.fin ≤ most := by
  unfold mayB at h
  simp only [Bool.and_eq_true, decide_eq_true_eq, Bool.or_eq_true, Bool.not_eq_true'] at h
  unfold PartD.fin
  obtain ⟨⟨⟨⟨⟨h1, h2⟩, h3⟩, h4⟩, h5⟩, h6⟩ := h
  exact ⟨h1, h2, h3, h4, h5, by omega⟩
def Ahead (x y : PartD) : Prop := x.fin ≤ y.pos ∧ x.more = true
structure OkPk (most : Int) (k : PkT) : Prop where
  fit : k.1.fit
  nm : ∀ q ∈ k.2, q.nm = k.1
  may : ∀ q ∈ k.2, mayB most q = true
  apart : k.2.Pairwise Ahead
structure OkT (many most : Int) (T : List PkT) : Prop where
  ok : ∀ k ∈ T, OkPk most k ∧ k.2 ≠ []
  names : (T.map (·.1)).Nodup
  len : (T.length : Int) ≤ max many 0

theorem PartD.pos_lt {most : Int} {p : PartD} (h : mayB most p = true) : p.pos < p.fin := by
  have := may_spec h
  unfold PartD.fin; omega
theorem clash_no {p q : PartD} (h : clashB p q = false) : (q.fin ≤ p.pos ∨ p.fin ≤ q.pos) ∧ (p.more = true ∨ q.more = true) ∧ (p.more = true ∨ q.fin ≤ p.fin) ∧ (q.more = true ∨ p.fin ≤ q.fin) := by
  unfold clashB at h
  simp only [Bool.or_eq_false_iff, Bool.and_eq_false_iff, decide_eq_false_iff_not, Bool.not_eq_false'] at h
  obtain ⟨⟨⟨h1, h2⟩, h3⟩, h4⟩ := h
  refine ⟨by omega, h2, ?_, ?_⟩
  · rcases h3 with h3 | h3
    · exact .inl h3
    · exact .inr (by omega)
  · rcases h4 with h4 | h4
    · exact .inl h4
    · exact .inr (by omega)
theorem insI_le (pos : Int) (ps : List PartD) : insI pos ps ≤ ps.length := List.findIdx_le_length
theorem insI_front {pos : Int} {ps : List PartD} : ∀ x ∈ ps.take (insI pos ps), x.pos < pos := by
  intro x hx
  obtain ⟨j, hj⟩ := List.getElem?_of_mem hx
  rw [List.getElem?_take] at hj
  split at hj
  · rename_i hlt
    have hjl := (List.getElem?_eq_some_iff.1 hj).1
    have := List.not_of_lt_findIdx (p := fun x : PartD => decide (pos ≤ x.pos)) (xs := ps) hlt
    rw [List.getElem?_eq_getElem hjl] at hj
    cases hj
    simp at this; omega
  · cases hj
theorem insI_back {pos : Int} {ps : List PartD} (hs : ps.Pairwise (fun x y => x.pos ≤ y.pos)) : ∀ x ∈ ps.drop (insI pos ps), pos ≤ x.pos := by
  intro x hx
  obtain ⟨j, hj⟩ := List.getElem?_of_mem hx
  rw [List.getElem?_drop] at hj
  have hjl := (List.getElem?_eq_some_iff.1 hj).1
  have hlt : insI pos ps < ps.length := by omega
  have h0 := List.findIdx_getElem (p := fun x : PartD => decide (pos ≤ x.pos)) (xs := ps) (w := hlt)
  simp at h0
  rw [List.getElem?_eq_getElem hjl] at hj
  cases hj
  by_cases hz : j = 0
  · subst hz; exact h0
  · have := List.pairwise_iff_getElem.1 hs (insI pos ps) (insI pos ps + j) hlt hjl (by omega)
    exact Int.le_trans h0 this
theorem ahead_sorted {most : Int} {ps : List PartD} (hm : ∀ q ∈ ps, mayB most q = true) (h : ps.Pairwise Ahead) : ps.Pairwise (fun x y => x.pos ≤ y.pos) := by
  refine List.Pairwise.imp_of_mem (fun {a b} ha hb hab => ?_) h
  have := PartD.pos_lt (hm a ha)
  have := hab.1; omega
theorem insPt_mem {p q : PartD} {ps : List PartD} : q ∈ insPt p ps ↔ q = p ∨ q ∈ ps := by
  unfold insPt
  rw [List.mem_append, List.mem_cons]
  have := List.take_append_drop (insI p.pos ps) ps
  constructor
  · rintro (h | h | h)
    · exact .inr (List.mem_of_mem_take h)
    · exact .inl h
    · exact .inr (List.mem_of_mem_drop h)
  · rintro (h | h)
    · exact .inr (.inl h)
    · rw [← this] at h
      rcases List.mem_append.1 h with h | h
      · exact .inl h
      · exact .inr (.inr h)
theorem insPt_length (p : PartD) (ps : List PartD) : (insPt p ps).length = ps.length + 1 := by
  have := insI_le p.pos ps
  unfold insPt
  simp; omega
theorem insPt_perm (p : PartD) (ps : List PartD) : (insPt p ps).Perm (p :: ps) := by
  unfold insPt
  refine List.perm_middle.trans ?_
  rw [List.take_append_drop]
theorem insPt_apart {most : Int} {p : PartD} {ps : List PartD} (hp : mayB most p = true) (hm : ∀ q ∈ ps, mayB most q = true) (h : ps.Pairwise Ahead) (hc : ps.any (clashB p) = false) : (insPt p ps).Pairwise Ahead := by
  have hs := ahead_sorted hm h
  rw [List.any_eq_false] at hc
  have hcl : ∀ q ∈ ps, clashB p q = false := fun q hq => by simpa using hc q hq
  have ht : ps.take (insI p.pos ps) ++ ps.drop (insI p.pos ps) = ps := List.take_append_drop ..
  have hpp := PartD.pos_lt hp
  unfold insPt
  rw [← ht] at h
  obtain ⟨h1, h2, h3⟩ := List.pairwise_append.1 h
  refine List.pairwise_append.2 ⟨h1, List.pairwise_cons.2 ⟨fun y hy => ?_, h2⟩, fun x hx y hy => ?_⟩
  · have hyp := List.mem_of_mem_drop hy
    have hb := insI_back hs y hy
    obtain ⟨c1, c2, c3, c4⟩ := clash_no (hcl y hyp)
    have hyy := PartD.pos_lt (hm y hyp)
    refine ⟨by omega, ?_⟩
    rcases c3 with c3 | c3
    · exact c3
    · omega
  · have hxp := List.mem_of_mem_take hx
    have hxx := PartD.pos_lt (hm x hxp)
    rcases List.mem_cons.1 hy with rfl | hy
    · have hf := insI_front x hx
      obtain ⟨c1, c2, c3, c4⟩ := clash_no (hcl x hxp)
      refine ⟨by omega, ?_⟩
      rcases c4 with c4 | c4
      · exact c4
      · omega
    · exact h3 x hx y hy

theorem OkPk.ins {most : Int} {n : NameD} {ps : List PartD} {p : PartD} (h : OkPk most (n, ps)) (hp : mayB most p = true) (hn : p.nm = n) (hc : ps.any (clashB p) = false) : OkPk most (n, insPt p ps) := by
  refine ⟨h.fit, fun q hq => ?_, fun q hq => ?_, insPt_apart hp h.may h.apart hc⟩
  · rcases insPt_mem.1 hq with rfl | hq
    · exact hn
    · exact h.nm q hq
  · rcases insPt_mem.1 hq with rfl | hq
    · exact hp
    · exact h.may q hq

theorem OkT.erase {many most : Int} {T : List PkT} (h : OkT many most T) (i : Nat) : OkT many most (T.eraseIdx i) := by
  refine ⟨fun k hk => h.ok k (List.mem_of_mem_eraseIdx hk), ?_, ?_⟩
  · exact h.names.sublist ((List.eraseIdx_sublist T i).map _)
  · have := List.length_eraseIdx_le T i
    have := h.len; omega
/-- a table whose last packet may have no part yet -/
structure PreT (many most : Int) (T : List PkT) : Prop where
  ok : ∀ k ∈ T, OkPk most k
  names : (T.map (·.1)).Nodup
  len : (T.length : Int) ≤ max many 0
theorem OkT.pre {many most : Int} {T : List PkT} (h : OkT many most T) : PreT many most T := ⟨fun k hk => (h.ok k hk).1, h.names, h.len⟩
theorem find_some {T : List PkT} {n : NameD} {i : Nat} (h : findPk T n = some i) : ∃ ps, T[i]? = some (n, ps) ∧ psAt T i = ps := by
  obtain ⟨hi, h1, _⟩ := List.findIdx?_eq_some_iff_getElem.1 h
  refine ⟨T[i].2, ?_, ?_⟩
  · rw [List.getElem?_eq_getElem hi]
    simp only [decide_eq_true_eq] at h1
    rw [← h1]
  · unfold psAt; rw [List.getElem?_eq_getElem hi]; rfl
theorem find_none {T : List PkT} {n : NameD} (h : findPk T n = none) : ∀ k ∈ T, k.1 ≠ n := fun k hk => by
  have := List.findIdx?_eq_none_iff.1 h k hk
  simpa using this

theorem stepIn_ok {many most : Int} {T : List PkT} {i : Nat} {n : NameD} {ps : List PartD} {p : PartD} (h : PreT many most T) (hi : T[i]? = some (n, ps)) (hp : mayB most p = true) (hn : p.nm = n)
    (hne : ∀ j k, T[j]? = some k → j ≠ i → k.2 ≠ []) : (∀ x, ps.any (sameB p) = true → x ∈ T → x.2 ≠ []) → OkT many most (stepIn T i n ps p).T := by
  intro hsame
  unfold stepIn
  have her : OkT many most (T.eraseIdx i) := by
    refine ⟨fun k hk => ⟨h.ok k (List.mem_of_mem_eraseIdx hk), ?_⟩, ?_, ?_⟩
    · obtain ⟨j, hj, hji⟩ := List.mem_eraseIdx_iff_getElem?.1 hk
      exact hne j k (by simpa using hji) hj
    · exact h.names.sublist ((List.eraseIdx_sublist T i).map _)
    · have := List.length_eraseIdx_le T i
      have := h.len; omega
  split
  · rename_i hs
    exact ⟨fun k hk => ⟨h.ok k hk, hsame k hs hk⟩, h.names, h.len⟩
  · split
    · exact her
    · rename_i hc
      split
      · exact her
      · have hmem : (n, ps) ∈ T := List.mem_of_getElem? hi
        have hil := (List.getElem?_eq_some_iff.1 hi).1
        refine ⟨fun k hk => ?_, ?_, ?_⟩
        · obtain ⟨j, hj⟩ := List.getElem?_of_mem hk
          simp only at hj
          rw [List.getElem?_set] at hj
          split at hj
          · rename_i hij
            have : k = (n, insPt p ps) := by simp at hj; exact hj.symm
            subst this
            refine ⟨(h.ok _ hmem).ins hp hn (by simpa using hc), ?_⟩
            intro e
            have hl := insPt_length p ps
            simp only at e
            rw [e] at hl
            simp at hl
          · rename_i hij
            exact ⟨h.ok k (List.mem_of_getElem? hj), hne j k hj (Ne.symm hij)⟩
        · simp only
          rw [List.map_set]
          have : ((n, insPt p ps) : PkT).1 = ((T.map (·.1))[i]'(by simpa using hil)) := by
            have := hi
            rw [List.getElem?_eq_getElem hil] at this
            simp at this
            simp [this]
          rw [this, List.set_getElem_self]
          exact h.names
        · simpa using h.len
theorem takeS_ok {many most : Int} {T : List PkT} {p : PartD} (h : OkT many most T) (hp : p.nm.fit) : OkT many most (takeS many most T p).T := by
  unfold takeS
  split
  · exact h
  · rename_i hm
    split
    · exact h
    · rename_i hmay
      have hmay : mayB most p = true := by simpa using hmay
      split
      · rename_i i hi
        obtain ⟨ps, h1, h2⟩ := find_some hi
        rw [h2]
        exact stepIn_ok h.pre h1 hmay rfl (fun j k hj _ => (h.ok k (List.mem_of_getElem? hj)).2) (fun x _ hx => (h.ok x hx).2)
      · rename_i hno
        have hr : OkT many most (roomed many T) := by
          unfold roomed; split
          · exact h.erase 0
          · exact h
        have hrl : (roomed many T).length + 1 ≤ max many 0 := by
          have := h.len
          unfold roomed
          split
          · rename_i hle
            have : 0 < T.length := by omega
            rw [List.length_eraseIdx_of_lt this]; omega
          · omega
        have hsub : ∀ k ∈ roomed many T, k ∈ T := fun k hk => by
          unfold roomed at hk
          split at hk
          · exact List.mem_of_mem_eraseIdx hk
          · exact hk
        refine stepIn_ok ?_ (by simp) hmay rfl ?_ ?_
        · refine ⟨fun k hk => ?_, ?_, ?_⟩
          · rcases List.mem_append.1 hk with hk | hk
            · exact (hr.ok k hk).1
            · simp at hk; subst hk
              exact ⟨hp, fun q hq => by simp at hq, fun q hq => by simp at hq, List.Pairwise.nil⟩
          · rw [List.map_append, List.nodup_append]
            refine ⟨hr.names, by simp, fun a ha b hb => ?_⟩
            simp at hb; subst hb
            obtain ⟨k, hk, rfl⟩ := List.mem_map.1 ha
            exact find_none hno k (hsub k hk)
          · rw [List.length_append]; simp; omega
        · intro j k hj hne
          rcases Nat.lt_or_ge j (roomed many T).length with hlt | hge
          · rw [List.getElem?_append_left hlt] at hj
            exact (hr.ok k (List.mem_of_getElem? hj)).2
          · have := (List.getElem?_eq_some_iff.1 hj).1
            simp at this; omega
        · intro x hx
          simp at hx
theorem roomed_sub {many : Int} {T : List PkT} : ∀ k ∈ roomed many T, k ∈ T := fun k hk => by
  unfold roomed at hk
  split at hk
  · exact List.mem_of_mem_eraseIdx hk
  · exact hk
theorem roomed_len {many : Int} {T : List PkT} : (roomed many T).length ≤ T.length := by
  unfold roomed
  split
  · exact List.length_eraseIdx_le T 0
  · exact Nat.le_refl _
theorem pre_new {many most : Int} {T : List PkT} {n : NameD} (h : OkT many most T) (hn : n.fit) (hm : 1 ≤ many) (hno : findPk T n = none) : PreT many most (roomed many T ++ [(n, [])]) := by
  have hr : OkT many most (roomed many T) := by
    unfold roomed; split
    · exact h.erase 0
    · exact h
  have hrl : (roomed many T).length + 1 ≤ max many 0 := by
    have := h.len
    unfold roomed
    split
    · rename_i hle
      have : 0 < T.length := by omega
      rw [List.length_eraseIdx_of_lt this]; omega
    · omega
  refine ⟨fun k hk => ?_, ?_, ?_⟩
  · rcases List.mem_append.1 hk with hk | hk
    · exact (hr.ok k hk).1
    · simp at hk; subst hk
      exact ⟨hn, fun q hq => by simp at hq, fun q hq => by simp at hq, List.Pairwise.nil⟩
  · rw [List.map_append, List.nodup_append]
    refine ⟨hr.names, by simp, fun a ha b hb => ?_⟩
    simp at hb; subst hb
    obtain ⟨k, hk, rfl⟩ := List.mem_map.1 ha
    exact find_none hno k (roomed_sub k hk)
  · rw [List.length_append]; simp; omega
end Go.Proofs.Ytnckmaieghlpmaa
namespace Go.Proofs.Ytnckmaieghlpmaa
open Go.RowKit
set_option linter.unusedVariables false

theorem take_get {α : Type} {l : List α} {n j : Nat} {x : α} (h : (l.take n)[j]? = some x) : l[j]? = some x := by
  rw [List.getElem?_take] at h
  split at h
  · exact h
  · cases h

def AheadRet (w : World) (cs : List UInt8) (m : Nat) (e : Ending) (w' : World) : Prop :=
  e = .returned (.tuple #[.agg (cs.map byteV).toArray, .int .i64 m]) ∧ Below w.heap.size w w'

set_option maxRecDepth 100000 in
set_option maxHeartbeats 1000000 in
theorem ahead4_any (w : World) (t : Bool) (A B : List UInt8) (n : Nat) (hA : A.length = 16) (hB : B.length = 16) (hn : n ≤ 65535) :
    Calls Try.prog 84 #[.agg (adrC false A), .agg (adrC t B), .int .i64 n] w (AheadRet w (aheadB false A B n ++ List.replicate 28 0) 12) := by
  have h1 := adr_zero false A
  have h2 := adr_zero t B
  obtain ⟨hi, hhi⟩ : ∃ hi, hi = UInt8.ofNat (n / 256 % 256) := ⟨_, rfl⟩
  obtain ⟨lo, hlo⟩ : ∃ lo, lo = UInt8.ofNat (n % 256) := ⟨_, rfl⟩
  have e1 : (n : Int) / 256 = (hi.toNat : Int) := by rw [hhi]; simp; omega
  have e2 : IntKind.u8.wrap (n : Int) = (lo.toNat : Int) := by rw [hlo, IntKind.wrap_u8]; simp
  have hfin := row4 A B n hA hB
  rw [← hhi, ← hlo] at hfin
  have hl1 : (splice (splice (List.replicate 40 (0 : UInt8)) 0 (A.take 4)) 4 (B.take 4)).length = 40 := by
    rw [length_splice _ _ _ (by rw [length_splice _ _ _ (by simp; try omega)]; simp; try omega), length_splice _ _ _ (by simp; try omega)]; simp
  have hcA : ((A.take 4).map byteV).length = 4 := by simp; try omega
  have hcB : ((B.take 4).map byteV).length = 4 := by simp; try omega
  have hA' : (A.take 4).length = 4 := by first | exact hA | (simp; omega)
  have HFIN := Lib.hid hfin
  have HL1 := Lib.hid hl1
  have HCA := Lib.hid hcA
  have HCB := Lib.hid hcB
  have HA' := Lib.hid hA'
  have hbyt : hi.toNat < 256 := hi.toNat_lt
  have HA := Lib.hid hA
  have HB := Lib.hid hB
  have E1 := Lib.hid e1
  have E2 := Lib.hid e2
  clear hA hB hhi hlo hfin hl1 hcA hcB e1 e2 hA'
  go_enter Try.func84, Try.ntmps84
  go_wp2_with fail
  have hbA := rowAt_adr w false A 54
  have hbB := rowAt_adr (w.alloc (.cells (adrC false A) 54)) t B 54
  rw [size_alloc] at hbB
  have hR : RowAt (((w.alloc (.cells (adrC false A) 54)).alloc (.cells (adrC t B) 54)).alloc (.cells (List.map byteV (List.replicate 40 0)).toArray 143)) (w.heap.size + 2) 143 (List.replicate 40 0) := by
    have := heap_alloc_new ((w.alloc (.cells (adrC false A) 54)).alloc (.cells (adrC t B) 54)) (.cells (List.map byteV (List.replicate 40 0)).toArray 143)
    rw [size_alloc, size_alloc] at this
    exact this
  have hX : Below w.heap.size w (((w.alloc (.cells (adrC false A) 54)).alloc (.cells (adrC t B) 54)).alloc (.cells (List.map byteV (List.replicate 40 0)).toArray 143)) :=
    (((Below.refl _ _).alloc (Nat.le_refl _) _).alloc (by simp) _).alloc (by simp; omega) _
  have hbA' := (hbA.same (below_cells (below_alloc _ (.cells (adrC t B) 54)))).same (below_cells (below_alloc _ (.cells (List.map byteV (List.replicate 40 0)).toArray 143)))
  have hbB' := hbB.same (below_cells (below_alloc _ (.cells (List.map byteV (List.replicate 40 0)).toArray 143)))
  change RowAt (((w.alloc (.cells (adrC false A) 54)).alloc (.cells (adrC t B) 54)).alloc (Obj.cells #[Value.int IntKind.u8 0, Value.int IntKind.u8 0, Value.int IntKind.u8 0, Value.int IntKind.u8 0, Value.int IntKind.u8 0, Value.int IntKind.u8 0, Value.int IntKind.u8 0, Value.int IntKind.u8 0, Value.int IntKind.u8 0, Value.int IntKind.u8 0, Value.int IntKind.u8 0, Value.int IntKind.u8 0, Value.int IntKind.u8 0, Value.int IntKind.u8 0, Value.int IntKind.u8 0, Value.int IntKind.u8 0, Value.int IntKind.u8 0, Value.int IntKind.u8 0, Value.int IntKind.u8 0, Value.int IntKind.u8 0, Value.int IntKind.u8 0, Value.int IntKind.u8 0, Value.int IntKind.u8 0, Value.int IntKind.u8 0, Value.int IntKind.u8 0, Value.int IntKind.u8 0, Value.int IntKind.u8 0, Value.int IntKind.u8 0, Value.int IntKind.u8 0, Value.int IntKind.u8 0, Value.int IntKind.u8 0, Value.int IntKind.u8 0, Value.int IntKind.u8 0, Value.int IntKind.u8 0, Value.int IntKind.u8 0, Value.int IntKind.u8 0, Value.int IntKind.u8 0, Value.int IntKind.u8 0, Value.int IntKind.u8 0, Value.int IntKind.u8 0] 143)) _ _ _ at hR
  change Below w.heap.size w (((w.alloc (.cells (adrC false A) 54)).alloc (.cells (adrC t B) 54)).alloc (Obj.cells #[Value.int IntKind.u8 0, Value.int IntKind.u8 0, Value.int IntKind.u8 0, Value.int IntKind.u8 0, Value.int IntKind.u8 0, Value.int IntKind.u8 0, Value.int IntKind.u8 0, Value.int IntKind.u8 0, Value.int IntKind.u8 0, Value.int IntKind.u8 0, Value.int IntKind.u8 0, Value.int IntKind.u8 0, Value.int IntKind.u8 0, Value.int IntKind.u8 0, Value.int IntKind.u8 0, Value.int IntKind.u8 0, Value.int IntKind.u8 0, Value.int IntKind.u8 0, Value.int IntKind.u8 0, Value.int IntKind.u8 0, Value.int IntKind.u8 0, Value.int IntKind.u8 0, Value.int IntKind.u8 0, Value.int IntKind.u8 0, Value.int IntKind.u8 0, Value.int IntKind.u8 0, Value.int IntKind.u8 0, Value.int IntKind.u8 0, Value.int IntKind.u8 0, Value.int IntKind.u8 0, Value.int IntKind.u8 0, Value.int IntKind.u8 0, Value.int IntKind.u8 0, Value.int IntKind.u8 0, Value.int IntKind.u8 0, Value.int IntKind.u8 0, Value.int IntKind.u8 0, Value.int IntKind.u8 0, Value.int IntKind.u8 0, Value.int IntKind.u8 0] 143)) at hX
  change At (((w.alloc (.cells (adrC false A) 54)).alloc (.cells (adrC t B) 54)).alloc (Obj.cells #[Value.int IntKind.u8 0, Value.int IntKind.u8 0, Value.int IntKind.u8 0, Value.int IntKind.u8 0, Value.int IntKind.u8 0, Value.int IntKind.u8 0, Value.int IntKind.u8 0, Value.int IntKind.u8 0, Value.int IntKind.u8 0, Value.int IntKind.u8 0, Value.int IntKind.u8 0, Value.int IntKind.u8 0, Value.int IntKind.u8 0, Value.int IntKind.u8 0, Value.int IntKind.u8 0, Value.int IntKind.u8 0, Value.int IntKind.u8 0, Value.int IntKind.u8 0, Value.int IntKind.u8 0, Value.int IntKind.u8 0, Value.int IntKind.u8 0, Value.int IntKind.u8 0, Value.int IntKind.u8 0, Value.int IntKind.u8 0, Value.int IntKind.u8 0, Value.int IntKind.u8 0, Value.int IntKind.u8 0, Value.int IntKind.u8 0, Value.int IntKind.u8 0, Value.int IntKind.u8 0, Value.int IntKind.u8 0, Value.int IntKind.u8 0, Value.int IntKind.u8 0, Value.int IntKind.u8 0, Value.int IntKind.u8 0, Value.int IntKind.u8 0, Value.int IntKind.u8 0, Value.int IntKind.u8 0, Value.int IntKind.u8 0, Value.int IntKind.u8 0] 143)) _ _ at hbA'
  change At (((w.alloc (.cells (adrC false A) 54)).alloc (.cells (adrC t B) 54)).alloc (Obj.cells #[Value.int IntKind.u8 0, Value.int IntKind.u8 0, Value.int IntKind.u8 0, Value.int IntKind.u8 0, Value.int IntKind.u8 0, Value.int IntKind.u8 0, Value.int IntKind.u8 0, Value.int IntKind.u8 0, Value.int IntKind.u8 0, Value.int IntKind.u8 0, Value.int IntKind.u8 0, Value.int IntKind.u8 0, Value.int IntKind.u8 0, Value.int IntKind.u8 0, Value.int IntKind.u8 0, Value.int IntKind.u8 0, Value.int IntKind.u8 0, Value.int IntKind.u8 0, Value.int IntKind.u8 0, Value.int IntKind.u8 0, Value.int IntKind.u8 0, Value.int IntKind.u8 0, Value.int IntKind.u8 0, Value.int IntKind.u8 0, Value.int IntKind.u8 0, Value.int IntKind.u8 0, Value.int IntKind.u8 0, Value.int IntKind.u8 0, Value.int IntKind.u8 0, Value.int IntKind.u8 0, Value.int IntKind.u8 0, Value.int IntKind.u8 0, Value.int IntKind.u8 0, Value.int IntKind.u8 0, Value.int IntKind.u8 0, Value.int IntKind.u8 0, Value.int IntKind.u8 0, Value.int IntKind.u8 0, Value.int IntKind.u8 0, Value.int IntKind.u8 0] 143)) _ _ at hbB'
  have hsz : (((w.alloc (.cells (adrC false A) 54)).alloc (.cells (adrC t B) 54)).alloc (Obj.cells #[Value.int IntKind.u8 0, Value.int IntKind.u8 0, Value.int IntKind.u8 0, Value.int IntKind.u8 0, Value.int IntKind.u8 0, Value.int IntKind.u8 0, Value.int IntKind.u8 0, Value.int IntKind.u8 0, Value.int IntKind.u8 0, Value.int IntKind.u8 0, Value.int IntKind.u8 0, Value.int IntKind.u8 0, Value.int IntKind.u8 0, Value.int IntKind.u8 0, Value.int IntKind.u8 0, Value.int IntKind.u8 0, Value.int IntKind.u8 0, Value.int IntKind.u8 0, Value.int IntKind.u8 0, Value.int IntKind.u8 0, Value.int IntKind.u8 0, Value.int IntKind.u8 0, Value.int IntKind.u8 0, Value.int IntKind.u8 0, Value.int IntKind.u8 0, Value.int IntKind.u8 0, Value.int IntKind.u8 0, Value.int IntKind.u8 0, Value.int IntKind.u8 0, Value.int IntKind.u8 0, Value.int IntKind.u8 0, Value.int IntKind.u8 0, Value.int IntKind.u8 0, Value.int IntKind.u8 0, Value.int IntKind.u8 0, Value.int IntKind.u8 0, Value.int IntKind.u8 0, Value.int IntKind.u8 0, Value.int IntKind.u8 0, Value.int IntKind.u8 0] 143)).heap.size = w.heap.size + 3 := by simp
  generalize (((w.alloc (.cells (adrC false A) 54)).alloc (.cells (adrC t B) 54)).alloc (Obj.cells #[Value.int IntKind.u8 0, Value.int IntKind.u8 0, Value.int IntKind.u8 0, Value.int IntKind.u8 0, Value.int IntKind.u8 0, Value.int IntKind.u8 0, Value.int IntKind.u8 0, Value.int IntKind.u8 0, Value.int IntKind.u8 0, Value.int IntKind.u8 0, Value.int IntKind.u8 0, Value.int IntKind.u8 0, Value.int IntKind.u8 0, Value.int IntKind.u8 0, Value.int IntKind.u8 0, Value.int IntKind.u8 0, Value.int IntKind.u8 0, Value.int IntKind.u8 0, Value.int IntKind.u8 0, Value.int IntKind.u8 0, Value.int IntKind.u8 0, Value.int IntKind.u8 0, Value.int IntKind.u8 0, Value.int IntKind.u8 0, Value.int IntKind.u8 0, Value.int IntKind.u8 0, Value.int IntKind.u8 0, Value.int IntKind.u8 0, Value.int IntKind.u8 0, Value.int IntKind.u8 0, Value.int IntKind.u8 0, Value.int IntKind.u8 0, Value.int IntKind.u8 0, Value.int IntKind.u8 0, Value.int IntKind.u8 0, Value.int IntKind.u8 0, Value.int IntKind.u8 0, Value.int IntKind.u8 0, Value.int IntKind.u8 0, Value.int IntKind.u8 0] 143)) = w3 at *
  obtain ⟨W, hW⟩ : ∃ W, W = w.heap.size := ⟨_, rfl⟩
  rw [← hW] at hbA' hbB' hR hX hsz ⊢
  have HBA := Lib.hid hbA'
  have HBB := Lib.hid hbB'
  have HR := Lib.hid hR
  have HX := Lib.hid hX
  have HW := Lib.hid hW
  have HS := Lib.hid hsz
  clear hbA hbB hbA' hbB' hR hX hW hsz
  go_still_tail 3, (by kernel_rfl)
  change wpList _ _ _ _ _ w3.drew
  refine wpList_copy_splice rfl (.tmp 11) (.tmp 13) 24 24 rfl 5 Try.underlying24 info5s _ _ _ _ _ _ rfl rfl (W + 2) 0 ((List.replicate 40 (0 : UInt8)).map byteV) 143 HR.out ((A.take 4).map byteV) (by rw [HCA.out]; rfl) (fun _ => ⟨rfl, _, rfl, fun j v hv => ?_⟩) (by rw [HCA.out, List.length_map, List.length_replicate]; omega) (bytes_oneCell _) (W + 2) w3.drew (Below.refl _ _) (Nat.le_refl _) ?_
  · have hx0 := hv
    rw [List.getElem?_map] at hx0
    obtain ⟨x, hx, rfl⟩ := Option.map_eq_some_iff.1 hx0
    have hx2 : A[j]? = some x := by exact take_get hx
    rcases HBA.out with h | ⟨b, o, e, h⟩
    · rw [h] at hx2; simp at hx2
    · cases e
      have hh := h j x hx2
      show w3.cell? _ = _
      rw [Addr.add_mid]; exact hh
  · intro w4 HG4 hb4
    rw [splice_map] at HG4
    have hbB4 : At w4 (some ⟨W + 1, 1, none⟩) B := by
      rcases HBB.out with h | ⟨b, o, e, h⟩
      · exact .inl h
      · cases e
        refine .inr ⟨_, _, rfl, fun i x hx => ?_⟩
        exact (hb4.cell (p := ⟨W + 1, 1 + i, none⟩) (by show W + 1 < W + 2; omega)).trans (h i x hx)
    have HBB4 := Lib.hid hbB4
    have HX4 : Hid (Below W w w4) := HX.out.trans ((below_drewN w3 1).mono (by have := HS.out; omega) |>.trans (hb4.mono (by omega)))
    have HS4 : Hid (w3.heap.size ≤ w4.heap.size) := hb4.size
    clear hb4 HBA HBB HR HX hbB4
    go_wp2_with fail
    go_still_tail 3, (by kernel_rfl)
    change wpList _ _ _ _ _ w4.drew
    refine wpList_copy_splice rfl (.tmp 15) (.tmp 17) 24 24 rfl 5 Try.underlying24 info5s _ _ _ _ _ _ rfl rfl (W + 2) 4 ((splice (List.replicate 40 (0 : UInt8)) 0 (A.take 4)).map byteV) 143 HG4.out ((B.take 4).map byteV) (by rw [HCB.out]; rfl) (fun _ => ⟨rfl, _, rfl, fun j v hv => ?_⟩) (by rw [HCB.out, List.length_map, length_splice _ _ _ (by rw [HA'.out]; simp)]; simp) (bytes_oneCell _) (W + 2) w4.drew (Below.refl _ _) (Nat.le_refl _) ?_
    · have hx0 := hv
      rw [List.getElem?_map] at hx0
      obtain ⟨x, hx, rfl⟩ := Option.map_eq_some_iff.1 hx0
      have hx2 : B[j]? = some x := by exact take_get hx
      rcases HBB4.out with h | ⟨b, o, e, h⟩
      · rw [h] at hx2; simp at hx2
      · cases e
        have hh := h j x hx2
        show w4.cell? _ = _
        rw [Addr.add_mid]; exact hh
    · intro w5 HG5 hb5
      rw [splice_map] at HG5
      have HX5 : Hid (Below W w w5) := HX4.out.trans ((below_drewN w4 1).mono (by have := HS.out; have := HS4.out; omega) |>.trans (hb5.mono (by omega)))
      clear hb5 HBB4 HX4 HG4
      obtain ⟨L, hL⟩ : ∃ L, L = splice (splice (List.replicate 40 (0 : UInt8)) 0 (A.take 4)) 4 (B.take 4) := ⟨_, rfl⟩
      rw [← hL] at HG5 HL1 HFIN
      have hR5 : RowAt w5 (W + 2) 143 L := HG5.out
      have c1 := hR5.cell 9 (L[9]'(by rw [HL1.out]; omega)) (by rw [List.getElem?_eq_getElem])
      have c2 := hR5.cell 10 (L[10]'(by rw [HL1.out]; omega)) (by rw [List.getElem?_eq_getElem])
      have c3 := hR5.cell 11 (L[11]'(by rw [HL1.out]; omega)) (by rw [List.getElem?_eq_getElem])
      have f1 := hR5.free 9
      have f2 := hR5.free 10
      have f3 := hR5.free 11
      have HR5 := Lib.hid hR5
      have ee1 := E1.out
      have ee2 := E2.out
      clear hR5 hL HG5
      have hstart : RowAt (((w5.setCell ⟨W + 2, 9, none⟩ (.int .u8 17)).setCell ⟨W + 2, 10, none⟩ (.int .u8 (hi.toNat : Int))).setCell ⟨W + 2, 11, none⟩ (.int .u8 (lo.toNat : Int))) (W + 2) 143 (aheadB false A B n ++ List.replicate 28 0) := by
        rw [← HFIN.out]; have hq := ((HR5.out.set 9 17).set 10 hi).set 11 lo
        rw [show (((17 : UInt8).toNat : Nat) : Int) = 17 from rfl] at hq
        exact hq
      have HST := Lib.hid hstart
      have HX6 : Hid (Below W w (((w5.setCell ⟨W + 2, 9, none⟩ (.int .u8 17)).setCell ⟨W + 2, 10, none⟩ (.int .u8 (hi.toNat : Int))).setCell ⟨W + 2, 11, none⟩ (.int .u8 (lo.toNat : Int)))) :=
        ((HX5.out.setCell (by show W ≤ W + 2; omega) _).setCell (by show W ≤ W + 2; omega) _).setCell (by show W ≤ W + 2; omega) _
      obtain ⟨F, hF⟩ : ∃ F, F = aheadB false A B n ++ List.replicate 28 0 := ⟨_, rfl⟩
      have hF40 : F.length = 40 := by rw [hF, ← HFIN.out]; simp [HL1.out]
      rw [← hF] at HST
      have HF40 := Lib.hid hF40
      have HFF := Lib.hid hF
      clear hstart hF hF40 HFIN
      go_wp2_with (first | ((with_reducible refine wpList_load143 (W + 2) F ?_ ?_ ?_ ?_); rfl; exact HST.out; exact HF40.out) | ((with_reducible refine wpList_store143_self (W + 2) F ?_ ?_ ?_ ?_ ?_); rfl; rfl; exact HST.out; exact HF40.out))
      have hl : (loadVar 143 ⟨W + 1 + 1, 0, none⟩).run Try.prog (((w5.setCell ⟨W + 1 + 1, 9, none⟩ (.int .u8 17)).setCell ⟨W + 1 + 1, 10, none⟩ (.int .u8 (hi.toNat : Int))).setCell ⟨W + 1 + 1, 11, none⟩ (.int .u8 (lo.toNat : Int))) = .ok (.agg (F.map byteV).toArray) _ := HST.out.load HF40.out
      refine bodyPost_ret (v := .tuple #[.agg (F.map byteV).toArray, .int .i64 12]) (by simp [results, Try.results84, asAddr, hl]) rfl ⟨?_, ?_⟩
      · rw [HFF.out]; rfl
      · rw [← HW.out]; exact HX6.out

set_option maxRecDepth 100000 in
set_option maxHeartbeats 1000000 in
theorem ahead6_any (w : World) (t : Bool) (A B : List UInt8) (n : Nat) (hA : A.length = 16) (hB : B.length = 16) (hn : n ≤ 65535) :
    Calls Try.prog 84 #[.agg (adrC true A), .agg (adrC t B), .int .i64 n] w (AheadRet w (aheadB true A B n) 40) := by
  have h1 := adr_zero true A
  have h2 := adr_zero t B
  obtain ⟨hi, hhi⟩ : ∃ hi, hi = UInt8.ofNat (n / 256 % 256) := ⟨_, rfl⟩
  obtain ⟨lo, hlo⟩ : ∃ lo, lo = UInt8.ofNat (n % 256) := ⟨_, rfl⟩
  have e1 : (n : Int) / 256 = (hi.toNat : Int) := by rw [hhi]; simp; omega
  have e2 : IntKind.u8.wrap (n : Int) = (lo.toNat : Int) := by rw [hlo, IntKind.wrap_u8]; simp
  have hfin := row6 A B n hA hB
  rw [← hhi, ← hlo] at hfin
  have hl1 : (splice (splice (List.replicate 40 (0 : UInt8)) 0 A) 16 B).length = 40 := by
    rw [length_splice _ _ _ (by rw [length_splice _ _ _ (by simp; try omega)]; simp; try omega), length_splice _ _ _ (by simp; try omega)]; simp
  have hcA : (A.map byteV).length = 16 := by simp; try omega
  have hcB : (B.map byteV).length = 16 := by simp; try omega
  have hA' : A.length = 16 := by first | exact hA | (simp; omega)
  have HFIN := Lib.hid hfin
  have HL1 := Lib.hid hl1
  have HCA := Lib.hid hcA
  have HCB := Lib.hid hcB
  have HA' := Lib.hid hA'
  have hbyt : hi.toNat < 256 := hi.toNat_lt
  have HA := Lib.hid hA
  have HB := Lib.hid hB
  have E1 := Lib.hid e1
  have E2 := Lib.hid e2
  clear hA hB hhi hlo hfin hl1 hcA hcB e1 e2 hA'
  go_enter Try.func84, Try.ntmps84
  go_wp2_with fail
  have hbA := rowAt_adr w true A 54
  have hbB := rowAt_adr (w.alloc (.cells (adrC true A) 54)) t B 54
  rw [size_alloc] at hbB
  have hR : RowAt (((w.alloc (.cells (adrC true A) 54)).alloc (.cells (adrC t B) 54)).alloc (.cells (List.map byteV (List.replicate 40 0)).toArray 143)) (w.heap.size + 2) 143 (List.replicate 40 0) := by
    have := heap_alloc_new ((w.alloc (.cells (adrC true A) 54)).alloc (.cells (adrC t B) 54)) (.cells (List.map byteV (List.replicate 40 0)).toArray 143)
    rw [size_alloc, size_alloc] at this
    exact this
  have hX : Below w.heap.size w (((w.alloc (.cells (adrC true A) 54)).alloc (.cells (adrC t B) 54)).alloc (.cells (List.map byteV (List.replicate 40 0)).toArray 143)) :=
    (((Below.refl _ _).alloc (Nat.le_refl _) _).alloc (by simp) _).alloc (by simp; omega) _
  have hbA' := (hbA.same (below_cells (below_alloc _ (.cells (adrC t B) 54)))).same (below_cells (below_alloc _ (.cells (List.map byteV (List.replicate 40 0)).toArray 143)))
  have hbB' := hbB.same (below_cells (below_alloc _ (.cells (List.map byteV (List.replicate 40 0)).toArray 143)))
  change RowAt (((w.alloc (.cells (adrC true A) 54)).alloc (.cells (adrC t B) 54)).alloc (Obj.cells #[Value.int IntKind.u8 0, Value.int IntKind.u8 0, Value.int IntKind.u8 0, Value.int IntKind.u8 0, Value.int IntKind.u8 0, Value.int IntKind.u8 0, Value.int IntKind.u8 0, Value.int IntKind.u8 0, Value.int IntKind.u8 0, Value.int IntKind.u8 0, Value.int IntKind.u8 0, Value.int IntKind.u8 0, Value.int IntKind.u8 0, Value.int IntKind.u8 0, Value.int IntKind.u8 0, Value.int IntKind.u8 0, Value.int IntKind.u8 0, Value.int IntKind.u8 0, Value.int IntKind.u8 0, Value.int IntKind.u8 0, Value.int IntKind.u8 0, Value.int IntKind.u8 0, Value.int IntKind.u8 0, Value.int IntKind.u8 0, Value.int IntKind.u8 0, Value.int IntKind.u8 0, Value.int IntKind.u8 0, Value.int IntKind.u8 0, Value.int IntKind.u8 0, Value.int IntKind.u8 0, Value.int IntKind.u8 0, Value.int IntKind.u8 0, Value.int IntKind.u8 0, Value.int IntKind.u8 0, Value.int IntKind.u8 0, Value.int IntKind.u8 0, Value.int IntKind.u8 0, Value.int IntKind.u8 0, Value.int IntKind.u8 0, Value.int IntKind.u8 0] 143)) _ _ _ at hR
  change Below w.heap.size w (((w.alloc (.cells (adrC true A) 54)).alloc (.cells (adrC t B) 54)).alloc (Obj.cells #[Value.int IntKind.u8 0, Value.int IntKind.u8 0, Value.int IntKind.u8 0, Value.int IntKind.u8 0, Value.int IntKind.u8 0, Value.int IntKind.u8 0, Value.int IntKind.u8 0, Value.int IntKind.u8 0, Value.int IntKind.u8 0, Value.int IntKind.u8 0, Value.int IntKind.u8 0, Value.int IntKind.u8 0, Value.int IntKind.u8 0, Value.int IntKind.u8 0, Value.int IntKind.u8 0, Value.int IntKind.u8 0, Value.int IntKind.u8 0, Value.int IntKind.u8 0, Value.int IntKind.u8 0, Value.int IntKind.u8 0, Value.int IntKind.u8 0, Value.int IntKind.u8 0, Value.int IntKind.u8 0, Value.int IntKind.u8 0, Value.int IntKind.u8 0, Value.int IntKind.u8 0, Value.int IntKind.u8 0, Value.int IntKind.u8 0, Value.int IntKind.u8 0, Value.int IntKind.u8 0, Value.int IntKind.u8 0, Value.int IntKind.u8 0, Value.int IntKind.u8 0, Value.int IntKind.u8 0, Value.int IntKind.u8 0, Value.int IntKind.u8 0, Value.int IntKind.u8 0, Value.int IntKind.u8 0, Value.int IntKind.u8 0, Value.int IntKind.u8 0] 143)) at hX
  change At (((w.alloc (.cells (adrC true A) 54)).alloc (.cells (adrC t B) 54)).alloc (Obj.cells #[Value.int IntKind.u8 0, Value.int IntKind.u8 0, Value.int IntKind.u8 0, Value.int IntKind.u8 0, Value.int IntKind.u8 0, Value.int IntKind.u8 0, Value.int IntKind.u8 0, Value.int IntKind.u8 0, Value.int IntKind.u8 0, Value.int IntKind.u8 0, Value.int IntKind.u8 0, Value.int IntKind.u8 0, Value.int IntKind.u8 0, Value.int IntKind.u8 0, Value.int IntKind.u8 0, Value.int IntKind.u8 0, Value.int IntKind.u8 0, Value.int IntKind.u8 0, Value.int IntKind.u8 0, Value.int IntKind.u8 0, Value.int IntKind.u8 0, Value.int IntKind.u8 0, Value.int IntKind.u8 0, Value.int IntKind.u8 0, Value.int IntKind.u8 0, Value.int IntKind.u8 0, Value.int IntKind.u8 0, Value.int IntKind.u8 0, Value.int IntKind.u8 0, Value.int IntKind.u8 0, Value.int IntKind.u8 0, Value.int IntKind.u8 0, Value.int IntKind.u8 0, Value.int IntKind.u8 0, Value.int IntKind.u8 0, Value.int IntKind.u8 0, Value.int IntKind.u8 0, Value.int IntKind.u8 0, Value.int IntKind.u8 0, Value.int IntKind.u8 0] 143)) _ _ at hbA'
  change At (((w.alloc (.cells (adrC true A) 54)).alloc (.cells (adrC t B) 54)).alloc (Obj.cells #[Value.int IntKind.u8 0, Value.int IntKind.u8 0, Value.int IntKind.u8 0, Value.int IntKind.u8 0, Value.int IntKind.u8 0, Value.int IntKind.u8 0, Value.int IntKind.u8 0, Value.int IntKind.u8 0, Value.int IntKind.u8 0, Value.int IntKind.u8 0, Value.int IntKind.u8 0, Value.int IntKind.u8 0, Value.int IntKind.u8 0, Value.int IntKind.u8 0, Value.int IntKind.u8 0, Value.int IntKind.u8 0, Value.int IntKind.u8 0, Value.int IntKind.u8 0, Value.int IntKind.u8 0, Value.int IntKind.u8 0, Value.int IntKind.u8 0, Value.int IntKind.u8 0, Value.int IntKind.u8 0, Value.int IntKind.u8 0, Value.int IntKind.u8 0, Value.int IntKind.u8 0, Value.int IntKind.u8 0, Value.int IntKind.u8 0, Value.int IntKind.u8 0, Value.int IntKind.u8 0, Value.int IntKind.u8 0, Value.int IntKind.u8 0, Value.int IntKind.u8 0, Value.int IntKind.u8 0, Value.int IntKind.u8 0, Value.int IntKind.u8 0, Value.int IntKind.u8 0, Value.int IntKind.u8 0, Value.int IntKind.u8 0, Value.int IntKind.u8 0] 143)) _ _ at hbB'
  have hsz : (((w.alloc (.cells (adrC true A) 54)).alloc (.cells (adrC t B) 54)).alloc (Obj.cells #[Value.int IntKind.u8 0, Value.int IntKind.u8 0, Value.int IntKind.u8 0, Value.int IntKind.u8 0, Value.int IntKind.u8 0, Value.int IntKind.u8 0, Value.int IntKind.u8 0, Value.int IntKind.u8 0, Value.int IntKind.u8 0, Value.int IntKind.u8 0, Value.int IntKind.u8 0, Value.int IntKind.u8 0, Value.int IntKind.u8 0, Value.int IntKind.u8 0, Value.int IntKind.u8 0, Value.int IntKind.u8 0, Value.int IntKind.u8 0, Value.int IntKind.u8 0, Value.int IntKind.u8 0, Value.int IntKind.u8 0, Value.int IntKind.u8 0, Value.int IntKind.u8 0, Value.int IntKind.u8 0, Value.int IntKind.u8 0, Value.int IntKind.u8 0, Value.int IntKind.u8 0, Value.int IntKind.u8 0, Value.int IntKind.u8 0, Value.int IntKind.u8 0, Value.int IntKind.u8 0, Value.int IntKind.u8 0, Value.int IntKind.u8 0, Value.int IntKind.u8 0, Value.int IntKind.u8 0, Value.int IntKind.u8 0, Value.int IntKind.u8 0, Value.int IntKind.u8 0, Value.int IntKind.u8 0, Value.int IntKind.u8 0, Value.int IntKind.u8 0] 143)).heap.size = w.heap.size + 3 := by simp
  generalize (((w.alloc (.cells (adrC true A) 54)).alloc (.cells (adrC t B) 54)).alloc (Obj.cells #[Value.int IntKind.u8 0, Value.int IntKind.u8 0, Value.int IntKind.u8 0, Value.int IntKind.u8 0, Value.int IntKind.u8 0, Value.int IntKind.u8 0, Value.int IntKind.u8 0, Value.int IntKind.u8 0, Value.int IntKind.u8 0, Value.int IntKind.u8 0, Value.int IntKind.u8 0, Value.int IntKind.u8 0, Value.int IntKind.u8 0, Value.int IntKind.u8 0, Value.int IntKind.u8 0, Value.int IntKind.u8 0, Value.int IntKind.u8 0, Value.int IntKind.u8 0, Value.int IntKind.u8 0, Value.int IntKind.u8 0, Value.int IntKind.u8 0, Value.int IntKind.u8 0, Value.int IntKind.u8 0, Value.int IntKind.u8 0, Value.int IntKind.u8 0, Value.int IntKind.u8 0, Value.int IntKind.u8 0, Value.int IntKind.u8 0, Value.int IntKind.u8 0, Value.int IntKind.u8 0, Value.int IntKind.u8 0, Value.int IntKind.u8 0, Value.int IntKind.u8 0, Value.int IntKind.u8 0, Value.int IntKind.u8 0, Value.int IntKind.u8 0, Value.int IntKind.u8 0, Value.int IntKind.u8 0, Value.int IntKind.u8 0, Value.int IntKind.u8 0] 143)) = w3 at *
  obtain ⟨W, hW⟩ : ∃ W, W = w.heap.size := ⟨_, rfl⟩
  rw [← hW] at hbA' hbB' hR hX hsz ⊢
  have HBA := Lib.hid hbA'
  have HBB := Lib.hid hbB'
  have HR := Lib.hid hR
  have HX := Lib.hid hX
  have HW := Lib.hid hW
  have HS := Lib.hid hsz
  clear hbA hbB hbA' hbB' hR hX hW hsz
  go_still_tail 3, (by kernel_rfl)
  change wpList _ _ _ _ _ w3.drew
  refine wpList_copy_splice rfl (.tmp 28) (.tmp 30) 24 24 rfl 5 Try.underlying24 info5s _ _ _ _ _ _ rfl rfl (W + 2) 0 ((List.replicate 40 (0 : UInt8)).map byteV) 143 HR.out (A.map byteV) (by rw [HCA.out]; rfl) (fun _ => ⟨rfl, _, rfl, fun j v hv => ?_⟩) (by rw [HCA.out, List.length_map, List.length_replicate]; omega) (bytes_oneCell _) (W + 2) w3.drew (Below.refl _ _) (Nat.le_refl _) ?_
  · have hx0 := hv
    rw [List.getElem?_map] at hx0
    obtain ⟨x, hx, rfl⟩ := Option.map_eq_some_iff.1 hx0
    have hx2 : A[j]? = some x := by exact hx
    rcases HBA.out with h | ⟨b, o, e, h⟩
    · rw [h] at hx2; simp at hx2
    · cases e
      have hh := h j x hx2
      show w3.cell? _ = _
      rw [Addr.add_mid]; exact hh
  · intro w4 HG4 hb4
    rw [splice_map] at HG4
    have hbB4 : At w4 (some ⟨W + 1, 1, none⟩) B := by
      rcases HBB.out with h | ⟨b, o, e, h⟩
      · exact .inl h
      · cases e
        refine .inr ⟨_, _, rfl, fun i x hx => ?_⟩
        exact (hb4.cell (p := ⟨W + 1, 1 + i, none⟩) (by show W + 1 < W + 2; omega)).trans (h i x hx)
    have HBB4 := Lib.hid hbB4
    have HX4 : Hid (Below W w w4) := HX.out.trans ((below_drewN w3 1).mono (by have := HS.out; omega) |>.trans (hb4.mono (by omega)))
    have HS4 : Hid (w3.heap.size ≤ w4.heap.size) := hb4.size
    clear hb4 HBA HBB HR HX hbB4
    go_wp2_with fail
    go_still_tail 3, (by kernel_rfl)
    change wpList _ _ _ _ _ w4.drew
    refine wpList_copy_splice rfl (.tmp 32) (.tmp 34) 24 24 rfl 5 Try.underlying24 info5s _ _ _ _ _ _ rfl rfl (W + 2) 16 ((splice (List.replicate 40 (0 : UInt8)) 0 A).map byteV) 143 HG4.out (B.map byteV) (by rw [HCB.out]; rfl) (fun _ => ⟨rfl, _, rfl, fun j v hv => ?_⟩) (by rw [HCB.out, List.length_map, length_splice _ _ _ (by rw [HA'.out]; simp)]; simp) (bytes_oneCell _) (W + 2) w4.drew (Below.refl _ _) (Nat.le_refl _) ?_
    · have hx0 := hv
      rw [List.getElem?_map] at hx0
      obtain ⟨x, hx, rfl⟩ := Option.map_eq_some_iff.1 hx0
      have hx2 : B[j]? = some x := by exact hx
      rcases HBB4.out with h | ⟨b, o, e, h⟩
      · rw [h] at hx2; simp at hx2
      · cases e
        have hh := h j x hx2
        show w4.cell? _ = _
        rw [Addr.add_mid]; exact hh
    · intro w5 HG5 hb5
      rw [splice_map] at HG5
      have HX5 : Hid (Below W w w5) := HX4.out.trans ((below_drewN w4 1).mono (by have := HS.out; have := HS4.out; omega) |>.trans (hb5.mono (by omega)))
      clear hb5 HBB4 HX4 HG4
      obtain ⟨L, hL⟩ : ∃ L, L = splice (splice (List.replicate 40 (0 : UInt8)) 0 A) 16 B := ⟨_, rfl⟩
      rw [← hL] at HG5 HL1 HFIN
      have hR5 : RowAt w5 (W + 2) 143 L := HG5.out
      have c1 := hR5.cell 34 (L[34]'(by rw [HL1.out]; omega)) (by rw [List.getElem?_eq_getElem])
      have c2 := hR5.cell 35 (L[35]'(by rw [HL1.out]; omega)) (by rw [List.getElem?_eq_getElem])
      have c3 := hR5.cell 39 (L[39]'(by rw [HL1.out]; omega)) (by rw [List.getElem?_eq_getElem])
      have f1 := hR5.free 34
      have f2 := hR5.free 35
      have f3 := hR5.free 39
      have HR5 := Lib.hid hR5
      have ee1 := E1.out
      have ee2 := E2.out
      clear hR5 hL HG5
      have hstart : RowAt (((w5.setCell ⟨W + 2, 34, none⟩ (.int .u8 (hi.toNat : Int))).setCell ⟨W + 2, 35, none⟩ (.int .u8 (lo.toNat : Int))).setCell ⟨W + 2, 39, none⟩ (.int .u8 17)) (W + 2) 143 (aheadB true A B n) := by
        rw [← HFIN.out]; have hq := ((HR5.out.set 34 hi).set 35 lo).set 39 17
        rw [show (((17 : UInt8).toNat : Nat) : Int) = 17 from rfl] at hq
        exact hq
      have HST := Lib.hid hstart
      have HX6 : Hid (Below W w (((w5.setCell ⟨W + 2, 34, none⟩ (.int .u8 (hi.toNat : Int))).setCell ⟨W + 2, 35, none⟩ (.int .u8 (lo.toNat : Int))).setCell ⟨W + 2, 39, none⟩ (.int .u8 17))) :=
        ((HX5.out.setCell (by show W ≤ W + 2; omega) _).setCell (by show W ≤ W + 2; omega) _).setCell (by show W ≤ W + 2; omega) _
      obtain ⟨F, hF⟩ : ∃ F, F = aheadB true A B n := ⟨_, rfl⟩
      have hF40 : F.length = 40 := by rw [hF, ← HFIN.out]; simp [HL1.out]
      rw [← hF] at HST
      have HF40 := Lib.hid hF40
      have HFF := Lib.hid hF
      clear hstart hF hF40 HFIN
      go_wp2_with (first | ((with_reducible refine wpList_load143 (W + 2) F ?_ ?_ ?_ ?_); rfl; exact HST.out; exact HF40.out) | ((with_reducible refine wpList_store143_self (W + 2) F ?_ ?_ ?_ ?_ ?_); rfl; rfl; exact HST.out; exact HF40.out))
      have hl : (loadVar 143 ⟨W + 1 + 1, 0, none⟩).run Try.prog (((w5.setCell ⟨W + 1 + 1, 34, none⟩ (.int .u8 (hi.toNat : Int))).setCell ⟨W + 1 + 1, 35, none⟩ (.int .u8 (lo.toNat : Int))).setCell ⟨W + 1 + 1, 39, none⟩ (.int .u8 17)) = .ok (.agg (F.map byteV).toArray) _ := HST.out.load HF40.out
      refine bodyPost_ret (v := .tuple #[.agg (F.map byteV).toArray, .int .i64 40]) (by simp [results, Try.results84, asAddr, hl]) rfl ⟨?_, ?_⟩
      · rw [HFF.out]; rfl
      · rw [← HW.out]; exact HX6.out

end Go.Proofs.Ytnckmaieghlpmaa
namespace Go.Proofs.Ytnckmaieghlpmaa
open Go.RowKit
set_option linter.unusedVariables false

def aheadF (s : Bool) (A B : List UInt8) (n : Nat) : List UInt8 := aheadB s A B n ++ List.replicate (if s then 0 else 28) 0
def aheadM (s : Bool) : Nat := if s then 40 else 12
theorem aheadB_len (s : Bool) (A B : List UInt8) (n : Nat) (hA : A.length = 16) (hB : B.length = 16) : (aheadB s A B n).length = aheadM s := by
  cases s <;> simp [aheadB, aheadM, hA, hB, numB_length]
theorem aheadF_len (s : Bool) (A B : List UInt8) (n : Nat) (hA : A.length = 16) (hB : B.length = 16) : (aheadF s A B n).length = 40 := by
  unfold aheadF; rw [List.length_append, aheadB_len s A B n hA hB]; cases s <;> simp [aheadM]
theorem aheadF_take (s : Bool) (A B : List UInt8) (n : Nat) (hA : A.length = 16) (hB : B.length = 16) : (aheadF s A B n).take (aheadM s) = aheadB s A B n := by
  unfold aheadF; rw [List.take_append_of_le_length (by rw [aheadB_len s A B n hA hB]; exact Nat.le_refl _), List.take_of_length_le (by rw [aheadB_len s A B n hA hB]; exact Nat.le_refl _)]
theorem aheadM_le (s : Bool) : 12 ≤ aheadM s ∧ aheadM s ≤ 40 := by cases s <;> decide

theorem ahead_any (w : World) (s t : Bool) (A B : List UInt8) (n : Nat) (hA : A.length = 16) (hB : B.length = 16) (hn : n ≤ 65535) :
    Calls Try.prog 84 #[.agg (adrC s A), .agg (adrC t B), .int .i64 n] w (AheadRet w (aheadF s A B n) (aheadM s)) := by
  cases s
  · exact ahead4_any w t A B n hA hB hn
  · have := ahead6_any w t A B n hA hB hn
    simpa [aheadF, aheadM] using this

theorem RowAt.bs {w : World} {g : Nat} {t : TypeId} {L : List UInt8} (h : RowAt w g t L) (m : Nat) (hm : m ≤ L.length) (c : Nat) (hc : m ≤ c) (hc2 : c ≤ maxLen) : Bs w (.slice (some ⟨g, 0, none⟩) m c) (L.take m) :=
  ⟨_, c, by rw [List.length_take, Nat.min_eq_left hm], by rw [List.length_take]; omega, hc2, .inr ⟨_, _, rfl, fun i x hx => by
    rw [Nat.zero_add]; exact h.cell i x (take_get hx)⟩⟩

theorem rowAt_zero (w : World) : RowAt (w.alloc (.cells (List.map byteV (List.replicate 40 0)).toArray 143)) w.heap.size 143 (List.replicate 40 0) := heap_alloc_new _ _

theorem slice143 (M : Nat) (hM : M = 12 ∨ M = 40) (W : World) (g : Nat) :
    (Instr.sliceAt 143 (.pointer (some ⟨g, 0, none⟩)) none (some (.int .i64 (M : Int))) none).run Try.prog W = .ok (.slice (some ⟨g, 0, none⟩) M 40) W := by
  rcases hM with rfl | rfl
  · simp [go_sem]
  · simp [go_sem]

def U16Ret (w : World) (n : Nat) (e : Ending) (w' : World) : Prop := e = .returned (.int .u16 n) ∧ Below w.heap.size w w'

set_option maxRecDepth 100000 in
set_option maxHeartbeats 1000000 in
theorem usum_any (w : World) (s t : Bool) (A B : List UInt8) (v : Value) (bs : List UInt8) (hA : A.length = 16) (hB : B.length = 16) (hb : Bs w v bs) (hl : bs.length ≤ 65535) :
    Calls Try.prog 59 #[.agg (adrC s A), .agg (adrC t B), v] w (U16Ret w (csum (aheadB s A B bs.length ++ bs))) := by
  have HBS := Lib.hid hb
  obtain ⟨a, c, rfl, hl1, hl2, hat⟩ := hb
  clear hat
  unfold maxLen at hl2
  obtain ⟨C, hC⟩ : ∃ C, C = csum (aheadB s A B bs.length ++ bs) := ⟨_, rfl⟩
  rw [← hC]
  obtain ⟨F, hF⟩ : ∃ F, F = aheadF s A B bs.length := ⟨_, rfl⟩
  have hF40 : F.length = 40 := hF ▸ aheadF_len s A B _ hA hB
  have hFt : F.take (aheadM s) = aheadB s A B bs.length := hF ▸ aheadF_take s A B _ hA hB
  obtain ⟨M, hM⟩ : ∃ M, M = aheadM s := ⟨_, rfl⟩
  have hM1 : M ≤ 40 := hM ▸ (aheadM_le s).2
  have hsl := slice143 M (by rw [hM]; cases s <;> simp [aheadM])
  rw [← hM] at hFt
  have HC := Lib.hid hC
  have HF := Lib.hid hF
  have HF40 := Lib.hid hF40
  have HFT := Lib.hid hFt
  have HM := Lib.hid hM
  have HA := Lib.hid hA
  have HB := Lib.hid hB
  have a1 : Hid (AdrAt ((w.alloc (.cells (adrC s A) 54)).alloc (.cells (adrC t B) 54)) w.heap.size 0 s A) := (adrAt_new w s A 54).below (below_alloc _ _)
  have a2 : Hid (AdrAt ((w.alloc (.cells (adrC s A) 54)).alloc (.cells (adrC t B) 54)) (w.heap.size + 1) 0 t B) := by
    have := adrAt_new (w.alloc (.cells (adrC s A) 54)) t B 54
    rw [size_alloc] at this; exact this
  clear hA hB hC hF hF40 hFt hM
  go_enter Try.func59, Try.ntmps59
  go_wp2_with (first | ((with_reducible refine wpList_load54 w.heap.size 0 s A ?_ ?_ ?_ ?_); rfl; exact a1.out; exact HA.out) | ((with_reducible refine wpList_load54 (w.heap.size + 1) 0 t B ?_ ?_ ?_ ?_); rfl; exact a2.out; exact HB.out))
  refine (ahead_any _ s t A B bs.length HA.out HB.out hl).mono ?_
  rintro e w1 ⟨rfl, hb1⟩
  rw [← HF.out, ← HM.out]
  have HB1 : Hid (Bs w1 (.slice a bs.length c) bs) := ((HBS.out.alloc _).alloc _).below hb1
  have HE1 : Hid (Below w.heap.size w w1) := ((below_alloc _ _).trans ((below_alloc _ _).mono (by simp))).trans (hb1.mono (by simp; omega))
  clear hb1 a1 a2 HBS
  have hz := rowAt_zero w1
  have HZ := Lib.hid hz
  clear hz
  go_wp2_with ((with_reducible refine wpList_store143 w1.heap.size (List.replicate 40 0) F ?_ ?_ ?_ ?_ ?_ ?_); rfl; rfl; exact HZ.out; rfl; exact HF40.out; intro w2 hR2 hb2 hs2; rw [size_alloc] at hs2; have HR2 := Lib.hid hR2; have HB2 := Lib.hid hb2; have HS2 := Lib.hid hs2; clear hR2 hb2 hs2)
  have hbS : Bs w2 (.slice (some ⟨w1.heap.size, 0, none⟩) M 40) (aheadB s A B bs.length) := by
    have := HR2.out.bs M (by rw [HF40.out]; exact hM1) 40 hM1 (by decide)
    rw [HFT.out] at this; exact this
  have hE2 : Below w1.heap.size w1 w2 := (below_alloc _ _).trans HB2.out
  have hbB : Bs w2 (.slice a bs.length c) bs := HB1.out.below hE2
  have HL : (aheadB s A B bs.length).length = M := by rw [HM.out]; exact aheadB_len s A B _ HA.out HB.out
  refine (sum_any _ _ _ [aheadB s A B bs.length, bs] (by simp) (by simp; omega) (rows2_two _ _ hbS hbB rfl)).mono ?_
  rintro e w3 ⟨rfl, rfl⟩
  rw [show csum [aheadB s A B bs.length, bs].flatten = C by rw [HC.out]; simp]
  have HE3 := Lib.hid (HE1.out.trans (hE2.mono HE1.out.size))
  clear hbS hE2 hbB HL hsl
  go_wp2_with fail
  go_ret
  exact ⟨rfl, HE3.out.alloc HE3.out.size _⟩
end Go.Proofs.Ytnckmaieghlpmaa
namespace Go.Proofs.Ytnckmaieghlpmaa
open Go.RowKit
set_option linter.unusedVariables false

/-- a slice of the call's own -/
def OwnRet (w : World) (bs : List UInt8) (e : Ending) (w' : World) : Prop :=
  ∃ v, e = .returned v ∧ Own w' w.heap.size v bs ∧ Below w.heap.size w w'

/-- the bytes that are laid so far: those at the places of the first k -/
def Laid (lit : Bool) (n m k : Nat) (xs : List UInt8) : Prop :=
  xs.length = m ∧ ∀ i, i < k → xs[if lit then i else m - 1 - i]? = some (UInt8.ofNat (n / 256 ^ i % 256))

theorem laid_all {lit : Bool} {n m : Nat} {xs : List UInt8} (h : Laid lit n m m xs) : xs = numB lit n m := by
  apply List.ext_getElem?
  intro i
  by_cases hi : i < m
  · rw [numB_get _ _ _ _ hi]
    cases lit
    · have := h.2 (m - 1 - i) (by omega)
      simp only [Bool.false_eq_true, if_false] at this ⊢
      rw [show m - 1 - (m - 1 - i) = i by omega] at this
      exact this
    · simpa using h.2 i hi
  · rw [List.getElem?_eq_none (by rw [h.1]; omega), List.getElem?_eq_none (by rw [numB_length]; omega)]

theorem laid_step {lit : Bool} {n m k : Nat} {xs : List UInt8} {x : UInt8} (h : Laid lit n m k xs) (hk : k < m) (hx : x = UInt8.ofNat (n / 256 ^ k % 256)) :
    Laid lit n m (k + 1) (xs.set (if lit then k else m - 1 - k) x) := by
  refine ⟨by rw [List.length_set]; exact h.1, fun i hi => ?_⟩
  by_cases he : i = k
  · subst he
    rw [List.getElem?_set_self (by rw [h.1]; split <;> omega), hx]
  · rw [List.getElem?_set_ne (by cases lit <;> simp <;> omega)]
    exact h.2 i (by omega)

theorem made_bytes (m : Nat) : (madeCells (Value.int .u8 0).cells (m * 1)).toList = (List.replicate m (0 : UInt8)).map byteV := by
  rw [List.map_replicate, List.eq_replicate_iff]
  refine ⟨by rw [Array.length_toList, size_madeCells]; omega, fun b hb => ?_⟩
  simp only [madeCells, Value.cells, Array.toList_map, List.mem_map] at hb
  obtain ⟨i, _, rfl⟩ := hb
  simp [byteV, Nat.mod_one]

set_option maxHeartbeats 1000000 in
theorem rput_any (w : World) (lit : Bool) (n m : Nat) (hn : n < 18446744073709551616) (hm : m ≤ 8) :
    Calls Try.prog 34 #[.int .u64 n, .bool lit, .int .i64 m] w (OwnRet w (numB lit n m)) := by
  obtain ⟨i0, hi, hz0, hz1, hz2⟩ := info_parts Try.info5
  go_enter Try.func34, Try.ntmps34
  go_wp2_with (at_make; refine wpList_make_full _ rfl _ _ 24 rfl w.heap.size 5 i0 (.int .u8 0) 1 Try.underlying24 hi hz0 hz1 _ _ _ _ m rfl rfl rfl rfl (by rw [hz2]; omega) (by unfold maxLen; omega) (Nat.le_refl _) ?_; intro w1 hown1 hgrow1)
  have hO : Own w1 w.heap.size (.slice (some ⟨w.heap.size, 0, none⟩) (List.replicate m (0 : UInt8)).length m) (List.replicate m (0 : UInt8)) := by
    unfold Own; rw [List.length_replicate, ← made_bytes]; exact hown1
  have hb1 : Below w.heap.size w w1 := (Below.refl _ _).grown hgrow1 (Nat.le_refl _) (fun k hk => by cases hk)
  have HO := Lib.hid hO
  have HB := Lib.hid hb1
  clear hO hb1 hown1 hgrow1
  go_loopw [0, 8] (fun q i wr => ∃ (k t : Nat), k ≤ m ∧ i = .int .i64 k ∧ q = .int .u64 t ∧ Hid (t = n / 256 ^ k) ∧
      Hid (∃ xs, Own wr w.heap.size (.slice (some ⟨w.heap.size, 0, none⟩) xs.length m) xs ∧ Laid lit n m k xs ∧ Below w.heap.size w wr)) (fun _ i _ => m - (intOf i).toNat)
  case atStart => exact ⟨0, n, Nat.zero_le _, rfl, rfl, by simp [Hid], _, HO.out, ⟨by simp, fun i hi => by omega⟩, HB.out⟩
  case round =>
    obtain ⟨k, t, hk, rfl, rfl, HT, HX⟩ := hrel
    obtain ⟨xs, hxs⟩ := HX.out
    have HS := Lib.hid hxs
    have hxl : xs.length = m := hxs.2.1.1
    have HL := Lib.hid hxl
    clear hxs HX hxl
    by_cases hlt : k < m
    · have ht : t < 18446744073709551616 := by
        have : n / 256 ^ k ≤ n := Nat.div_le_self _ _
        rw [HT.out]; omega
      obtain ⟨xb, hxb⟩ : ∃ xb, xb = UInt8.ofNat (t % 256) := ⟨_, rfl⟩
      have hxt : xb = UInt8.ofNat (n / 256 ^ k % 256) := by rw [hxb, HT.out]
      have hxi : (t : Int) % 256 = (xb.toNat : Int) := by rw [hxb]; simp
      have HXT := Lib.hid hxt
      clear hxb hxt
      have hfr := fun j => own_free HS.out.1 j
      cases lit
      · obtain ⟨y, hy⟩ : ∃ y, xs[m - 1 - k]? = some y := ⟨xs[m - 1 - k]'(by rw [HL.out]; omega), by rw [List.getElem?_eq_getElem]⟩
        have hcell := own_cell (j := m - 1 - k) (by have := HS.out.1; exact this) hy
        have hidx : m - 1 - k < m := by omega
        clear hy
        go_wp2
        go_roundw
        case rel =>
          refine ⟨k + 1, t / 256, by omega, by go_num, by go_num, by show _ = _; rw [HT.out, Nat.pow_succ, Nat.div_div_eq_div_mul], xs.set (m - 1 - k) xb, ?_, laid_step (lit := false) HS.out.2.1 hlt HXT.out, HS.out.2.2.setCell (Nat.le_refl _) _⟩
          have := own_store HS.out.1 (m - 1 - k) xb
          rw [List.length_set]; exact this
        case measure => simp [intOf]; omega
      · obtain ⟨y, hy⟩ : ∃ y, xs[k]? = some y := ⟨xs[k]'(by rw [HL.out]; omega), by rw [List.getElem?_eq_getElem]⟩
        have hcell := own_cell (j := k) (by have := HS.out.1; exact this) hy
        have hidx : k < m := by omega
        clear hy
        go_wp2
        go_roundw
        case rel =>
          refine ⟨k + 1, t / 256, by omega, by go_num, by go_num, by show _ = _; rw [HT.out, Nat.pow_succ, Nat.div_div_eq_div_mul], xs.set (k) xb, ?_, laid_step (lit := true) HS.out.2.1 hlt HXT.out, HS.out.2.2.setCell (Nat.le_refl _) _⟩
          have := own_store HS.out.1 (k) xb
          rw [List.length_set]; exact this
        case measure => simp [intOf]; omega
    · obtain rfl : k = m := by omega
      have hxe := laid_all HS.out.2.1
      go_wp2
      go_ret
      refine ⟨_, rfl, ?_, HS.out.2.2⟩
      rw [← hxe]
      have := HS.out.1
      rw [HL.out] at this
      exact this
end Go.Proofs.Ytnckmaieghlpmaa
namespace Go.Proofs.Ytnckmaieghlpmaa
open Go.RowKit
set_option linter.unusedVariables false

theorem wpList_app' {w : World} {ops : Array Oper} {rest : List Oper} {o : Oper} {a : Act} {Q : Exit → Act → World → Prop} (hgd : o.guard = none) (s x : Operand)
    (ho : o.op = .call { callee := .builtin .append, args := #[s, x], argTypes := #[24, 24] }) (base : Nat) (v : Value) (bs : List UInt8) (hs : a.eval s = v) (hown : Own w base v bs)
    (vx : Value) (news : List UInt8) (hx : a.eval x = vx) (hB : Bs w vx news) (hlen : bs.length + news.length ≤ 70368744177664) (hbase : base ≤ w.heap.size)
    (h : ∀ Y a' c' w', Hid (Y = bs ++ news) → Hid (Own w' base (.slice a' Y.length c') Y) → Hid (Below base w w') → Hid (Y.length = bs.length + news.length) → Y.length ≤ c' ∧ c' ≤ 9223372036854775807 →
      wpList Try.prog ops Q rest (a.put o.dst (.slice a' Y.length c')) w') :
    wpList Try.prog ops Q (o :: rest) a w :=
  wpList_app hgd s x ho base v bs hs hown vx news hx hB hlen hbase fun a' c' w' h1 h2 h3 => by
    have e : bs.length + news.length = (bs ++ news).length := by simp
    rw [e] at h1 h3 ⊢
    exact h _ a' c' w' rfl h1 h2 e.symm h3

theorem step_app' {w : World} {ops : Array Oper} {o : Oper} {a : Act} {K : Act → World → Prop} {Q : Exit → Act → World → Prop} {E : Prop} (hgd : o.guard = none) (s x : Operand)
    (ho : o.op = .call { callee := .builtin .append, args := #[s, x], argTypes := #[24, 24] }) (base : Nat) (v : Value) (bs : List UInt8) (hs : a.eval s = v) (hown : Own w base v bs)
    (vx : Value) (news : List UInt8) (hx : a.eval x = vx) (hB : Bs w vx news) (hlen : bs.length + news.length ≤ 70368744177664) (hbase : base ≤ w.heap.size)
    (h : ∀ Y a' c' w', Hid (Y = bs ++ news) → Hid (Own w' base (.slice a' Y.length c') Y) → Hid (Below base w w') → Hid (Y.length = bs.length + news.length) → Y.length ≤ c' ∧ c' ≤ 9223372036854775807 →
      K (a.put o.dst (.slice a' Y.length c')) w') :
    if Region.wanted o (yielded ops a.tmps) = true then Oper.wp Try.prog o a w K Q else E :=
  step_app hgd s x ho base v bs hs hown vx news hx hB hlen hbase fun a' c' w' h1 h2 h3 => by
    have e : bs.length + news.length = (bs ++ news).length := by simp
    rw [e] at h1 h3 ⊢
    exact h _ a' c' w' rfl h1 h2 e.symm h3

/-- .. where the operation is guarded, and runs -/
theorem step_app_g {w : World} {ops : Array Oper} {o : Oper} {a : Act} {K : Act → World → Prop} {Q : Exit → Act → World → Prop} {E : Prop} (hw : Region.wanted o (yielded ops a.tmps) = true) (s x : Operand)
    (ho : o.op = .call { callee := .builtin .append, args := #[s, x], argTypes := #[24, 24] }) (base : Nat) (v : Value) (bs : List UInt8) (hs : a.eval s = v) (hown : Own w base v bs)
    (vx : Value) (news : List UInt8) (hx : a.eval x = vx) (hB : Bs w vx news) (hlen : bs.length + news.length ≤ 70368744177664) (hbase : base ≤ w.heap.size)
    (h : ∀ Y a' c' w', Hid (Y = bs ++ news) → Hid (Own w' base (.slice a' Y.length c') Y) → Hid (Below base w w') → Hid (Y.length = bs.length + news.length) → Y.length ≤ c' ∧ c' ≤ 9223372036854775807 →
      K (a.put o.dst (.slice a' Y.length c')) w') :
    if Region.wanted o (yielded ops a.tmps) = true then Oper.wp Try.prog o a w K Q else E := by
  rw [if_pos hw]
  exact wp_app s x ho base v bs hs hown vx news hx hB hlen hbase fun a' c' w' h1 h2 h3 => by
    have e : bs.length + news.length = (bs ++ news).length := by simp
    rw [e] at h1 h3 ⊢
    exact h _ a' c' w' rfl h1 h2 e.symm h3

/-- what a call returns that makes bytes of its own, the list under a name -/
def OwnRet' (w : World) (P : List UInt8 → Prop) (e : Ending) (w' : World) : Prop :=
  ∃ Y a c, e = .returned (.slice a Y.length c) ∧ P Y ∧ Own w' w.heap.size (.slice a Y.length c) Y ∧ Below w.heap.size w w' ∧ Y.length ≤ c ∧ c ≤ 9223372036854775807
def RowRet' (w : World) (lit : Bool) (P : List UInt8 → Prop) (e : Ending) (w' : World) : Prop :=
  ∃ Y a c, e = .returned (.agg #[.slice a Y.length c, .bool lit]) ∧ P Y ∧ Own w' w.heap.size (.slice a Y.length c) Y ∧ Below w.heap.size w w' ∧ Y.length ≤ c ∧ c ≤ 9223372036854775807

theorem rput' (w : World) (lit : Bool) (n m : Nat) (hn : n < 18446744073709551616) (hm : m ≤ 8) :
    Calls Try.prog 34 #[.int .u64 n, .bool lit, .int .i64 m] w (OwnRet' w (· = numB lit n m)) :=
  (rput_any w lit n m hn hm).mono fun e w' h => by
    obtain ⟨v, he, ho, hb⟩ := h
    obtain ⟨a, c, rfl, h1, h2⟩ := ho.slice
    exact ⟨_, a, c, he, rfl, ho, hb, h1, h2⟩
theorem put' (w : World) (v : Value) (bs : List UInt8) (lit : Bool) (n m : Nat) (hb : Bs w v bs) (hbl : bs.length ≤ 4294967296) (hn : n < 18446744073709551616) (hm : m ≤ 8) :
    Calls Try.prog 33 #[.agg #[v, .bool lit], .int .u64 n, .int .i64 m] w (RowRet' w lit (· = bs ++ numB lit n m)) :=
  (put_yes w v bs lit n m hb hbl hn hm).mono fun e w' h => by
    obtain ⟨v, rfl, ho, hb⟩ := h
    obtain ⟨a, c, rfl, h1, h2⟩ := ho.slice
    exact ⟨_, a, c, rfl, rfl, ho, hb, h1, h2⟩
end Go.Proofs.Ytnckmaieghlpmaa
namespace Go.Proofs.Ytnckmaieghlpmaa
open Go.RowKit
set_option linter.unusedVariables false

set_option maxHeartbeats 400000 in
theorem number_any (w : World) (v : Value) (bs : List UInt8) (n : Int) (hb : Bs w v bs) :
    Calls Try.prog 60 #[v, .int .i64 n, .int .i64 2] w fun e w' => e = .returned (.int .i64 (getN false bs n 2)) ∧ w = w' := by
  have hlt : getN false bs n 2 < 65536 := getN_lt false bs n 2
  obtain ⟨N, hN⟩ : ∃ N, N = getN false bs n 2 := ⟨_, rfl⟩
  rw [← hN] at hlt ⊢
  have HN := Lib.hid hN
  have HB := Lib.hid hb
  clear hb hN
  go_enter Try.func60, Try.ntmps60
  go_wp2_with (go_at_call 27; refine (rget_any _ v bs false n 2 HB.out).mono ?_; rintro e w1 ⟨rfl, rfl⟩; rw [← HN.out])
  go_ret
  exact ⟨rfl, rfl⟩

theorem AdrAt.bs {w : World} {g : Nat} {s : Bool} {A : List UInt8} (h : AdrAt w g 0 s A) (m : Nat) (hm : m ≤ A.length) (c : Nat) (hc : m ≤ c) (hc2 : c ≤ maxLen) : Bs w (.slice (some ⟨g, 1, none⟩) m c) (A.take m) := by
  have hl : (A.take m).length = m := by rw [List.length_take]; omega
  refine ⟨_, c, by rw [hl], by rw [hl]; exact hc, hc2, ?_⟩
  rcases h.bytes with h | ⟨b, o, e, h⟩
  · left; rw [h]; simp
  · exact .inr ⟨b, o, e, fun i x hx => h i x (take_get hx)⟩
theorem AdrAt.keep {w w' : World} {B g o : Nat} {s : Bool} {A : List UInt8} (h : AdrAt w g o s A) (hb : Below B w w') (hg : g < B) : AdrAt w' g o s A := fun j v hv =>
  (hb.cell (p := ⟨g, o + j, none⟩) hg).trans (h j v hv)

set_option maxRecDepth 100000 in
set_option maxHeartbeats 1000000 in
theorem rahead4 (w : World) (t : Bool) (A B : List UInt8) (n : Nat) (hA : A.length = 16) (hB : B.length = 16) (hn : n ≤ 65535) :
    Calls Try.prog 61 #[.agg (adrC false A), .agg (adrC t B), .int .i64 n] w (OwnRet' w (· = aheadB false A B n)) := by
  have a1 : Hid (AdrAt ((w.alloc (.cells (adrC false A) 54)).alloc (.cells (adrC t B) 54)) w.heap.size 0 false A) := (adrAt_new w false A 54).below (below_alloc _ _)
  have A2 : Hid (AdrAt ((w.alloc (.cells (adrC false A) 54)).alloc (.cells (adrC t B) 54)) (w.heap.size + 1) 0 t B) := by
    have := adrAt_new (w.alloc (.cells (adrC false A) 54)) t B 54
    rw [size_alloc] at this; exact this
  have hlA : (A.take 4).length = 4 := by first | exact hA | (simp; omega)
  have hlB : (B.take 4).length = 4 := by first | exact hB | (simp; omega)
  have HB1 : Hid (Bs ((w.alloc (.cells (adrC false A) 54)).alloc (.cells (adrC t B) 54)) (.slice (some ⟨w.heap.size, 1, none⟩) 4 16) (A.take 4)) := (a1.out.bs 4 (by omega) 16 (by omega) (by decide))
  have h0 := adr_zero false A
  have HA := Lib.hid hlA
  have HB := Lib.hid hlB
  have HE : Hid (Below w.heap.size w ((w.alloc (.cells (adrC false A) 54)).alloc (.cells (adrC t B) 54))) := (below_alloc _ _).trans ((below_alloc _ _).mono (by simp))
  have HBl := Lib.hid hB
  have HX : Hid (aheadB false A B n = aheadB false A B n) := rfl
  clear hA hB hlA hlB
  have tok1 : True := trivial
  have tok2 : True := trivial
  have tok3 : True := trivial
  go_enter Try.func61, Try.ntmps61
  go_wp2_with (at_builtin; first
    | (have _t := tok1; refine wpList_app' rfl _ _ rfl (w.heap.size + 2) _ [] rfl (own_nil _ _) _ (A.take 4) rfl HB1.out (by rw [HA.out]; simp) (by simp) ?_; intro Y1 a1' c1 w1 E1 O1 L1 N1 hc1; have S1 := Lib.hid (show w.heap.size + 2 ≤ w1.heap.size by have := L1.out.size; simp at this; omega); have HB3 : Hid (Bs w1 (.slice (some ⟨w.heap.size + 1, 1, none⟩) 4 16) (B.take 4)) := ((A2.out.keep L1.out (Nat.lt_succ_self _)).bs 4 (by rw [HBl.out]; decide) 16 (by omega) (by decide)); clear tok1)
    | (have _t := tok2; refine wpList_app' rfl _ _ rfl (w.heap.size + 2) _ Y1 rfl O1.out _ (B.take 4) rfl HB3.out (by rw [HB.out, N1.out, HA.out]; simp) S1.out ?_; intro Y2 a2' c2 w2 E2 O2 L2 N2 hc2; have S2 := Lib.hid (show w.heap.size + 2 ≤ w2.heap.size from Nat.le_trans S1.out L2.out.size); have z2 : w2.cell? ⟨w.heap.size, 0, none⟩ = some (.bool false) := ((a1.out.keep L1.out (by omega)).keep L2.out (by omega)).flag; clear tok2)
    | (have _t := tok3; refine wpList_app' rfl _ _ rfl (w.heap.size + 2) _ Y2 rfl (O2.out.alloc _) _ [0, 17] rfl (bs_new w2 [0, 17] _ 5 _ rfl (by decide)) (by rw [N2.out, N1.out, HA.out, HB.out]; simp) (by rw [size_alloc]; exact Nat.le_succ_of_le S2.out) ?_; intro Y3 a3' c3 w3 E3 O3 L3 N3 hc3; have S3 := Lib.hid (show w.heap.size + 2 ≤ w3.heap.size from Nat.le_trans (Nat.le_trans S2.out (below_alloc _ _).size) L3.out.size); have L3' : Hid (Below (w.heap.size + 2) w2 w3) := ((below_alloc _ _).mono S2.out).trans L3.out; clear tok3))
  refine (rput' _ false n 2 (by omega) (by omega)).mono ?_
  rintro e w4 ⟨Y4, a4, c4, rfl, e4, o4, b4, hs4, hs5⟩
  have E4 := Lib.hid e4
  have O4 : Hid (Bs w4 (.slice a4 Y4.length c4) Y4) := o4.bs
  have O3' : Hid (Own w4 (w.heap.size + 2) (.slice a3' Y3.length c3) Y3) := O3.out.below b4
  have L4 : Hid (Below (w.heap.size + 2) w3 w4) := b4.mono S3.out
  have S4 := Lib.hid (show w.heap.size + 2 ≤ w4.heap.size from Nat.le_trans S3.out b4.size)
  have N4 := Lib.hid (show Y4.length = 2 by rw [E4.out, numB_length])
  clear e4 o4 b4
  go_wp2_with (at_builtin; refine wpList_app' rfl _ _ rfl (w.heap.size + 2) _ Y3 rfl O3'.out _ Y4 rfl O4.out (by rw [N4.out, N3.out, N2.out, N1.out, HA.out, HB.out]; simp) S4.out ?_; intro Y5 a5 c5 w5 E5 O5 L5 N5 hc5)
  go_ret
  refine ⟨Y5, a5, c5, rfl, ?_, O5.out.mono (by omega), ?_, hc5.1, hc5.2⟩
  · rw [E5.out, E4.out, E3.out, E2.out, E1.out]; simp [aheadB]
  · exact HE.out.trans (((((L1.out.trans L2.out).trans L3'.out).trans L4.out).trans L5.out).mono (by omega))
set_option maxRecDepth 100000 in
set_option maxHeartbeats 1000000 in
theorem rahead6 (w : World) (t : Bool) (A B : List UInt8) (n : Nat) (hA : A.length = 16) (hB : B.length = 16) (hn : n ≤ 65535) :
    Calls Try.prog 61 #[.agg (adrC true A), .agg (adrC t B), .int .i64 n] w (OwnRet' w (· = aheadB true A B n)) := by
  have a1 : Hid (AdrAt ((w.alloc (.cells (adrC true A) 54)).alloc (.cells (adrC t B) 54)) w.heap.size 0 true A) := (adrAt_new w true A 54).below (below_alloc _ _)
  have A2 : Hid (AdrAt ((w.alloc (.cells (adrC true A) 54)).alloc (.cells (adrC t B) 54)) (w.heap.size + 1) 0 t B) := by
    have := adrAt_new (w.alloc (.cells (adrC true A) 54)) t B 54
    rw [size_alloc] at this; exact this
  have hlA : A.length = 16 := by first | exact hA | (simp; omega)
  have hlB : B.length = 16 := by first | exact hB | (simp; omega)
  have HB1 : Hid (Bs ((w.alloc (.cells (adrC true A) 54)).alloc (.cells (adrC t B) 54)) (.slice (some ⟨w.heap.size, 1, none⟩) 16 16) A) := (by have := a1.out.bs 16 (by omega) 16 (by omega) (by decide); rwa [List.take_of_length_le (by omega)] at this)
  have h0 := adr_zero true A
  have HA := Lib.hid hlA
  have HB := Lib.hid hlB
  have HE : Hid (Below w.heap.size w ((w.alloc (.cells (adrC true A) 54)).alloc (.cells (adrC t B) 54))) := (below_alloc _ _).trans ((below_alloc _ _).mono (by simp))
  have HBl := Lib.hid hB
  have HX : Hid (aheadB true A B n = aheadB true A B n) := rfl
  clear hA hB hlA hlB
  have tok1 : True := trivial
  have tok2 : True := trivial
  have tok3 : True := trivial
  go_enter Try.func61, Try.ntmps61
  go_wp2_with (at_builtin; first
    | (have _t := tok1; refine wpList_app' rfl _ _ rfl (w.heap.size + 2) _ [] rfl (own_nil _ _) _ A rfl HB1.out (by rw [HA.out]; simp) (by simp) ?_; intro Y1 a1' c1 w1 E1 O1 L1 N1 hc1; have S1 := Lib.hid (show w.heap.size + 2 ≤ w1.heap.size by have := L1.out.size; simp at this; omega); have HB3 : Hid (Bs w1 (.slice (some ⟨w.heap.size + 1, 1, none⟩) 16 16) B) := (by have := (A2.out.keep L1.out (Nat.lt_succ_self _)).bs 16 (by rw [HBl.out]; decide) 16 (by omega) (by decide); rwa [List.take_of_length_le (by rw [HBl.out]; decide)] at this); clear tok1)
    | (have _t := tok2; refine wpList_app' rfl _ _ rfl (w.heap.size + 2) _ Y1 rfl O1.out _ B rfl HB3.out (by rw [HB.out, N1.out, HA.out]; simp) S1.out ?_; intro Y2 a2' c2 w2 E2 O2 L2 N2 hc2; have S2 := Lib.hid (show w.heap.size + 2 ≤ w2.heap.size from Nat.le_trans S1.out L2.out.size); have z2 : w2.cell? ⟨w.heap.size, 0, none⟩ = some (.bool true) := ((a1.out.keep L1.out (by omega)).keep L2.out (by omega)).flag; clear tok2)
    | fail)
  refine (rput' _ false n 4 (by omega) (by omega)).mono ?_
  rintro e w3 ⟨Y4, a4, c4, rfl, e4, o4, b4, hs4, hs5⟩
  have E4 := Lib.hid e4
  have O4 : Hid (Bs w3 (.slice a4 Y4.length c4) Y4) := o4.bs
  have O3' : Hid (Own w3 (w.heap.size + 2) (.slice a2' Y2.length c2) Y2) := O2.out.below b4
  have L4 : Hid (Below (w.heap.size + 2) w2 w3) := b4.mono S2.out
  have S4 := Lib.hid (show w.heap.size + 2 ≤ w3.heap.size from Nat.le_trans S2.out b4.size)
  have N4 := Lib.hid (show Y4.length = 4 by rw [E4.out, numB_length])
  clear e4 o4 b4
  have tok5 : True := trivial
  go_wp2_with (at_builtin; first
    | (have _t := tok5; refine wpList_app' rfl _ _ rfl (w.heap.size + 2) _ Y2 rfl O3'.out _ Y4 rfl O4.out (by rw [N4.out, N2.out, N1.out, HA.out, HB.out]; simp) S4.out ?_; intro Y5 a5 c5 w5 E5 O5 L5 N5 hc5; have S5 := Lib.hid (show w.heap.size + 2 ≤ w5.heap.size from Nat.le_trans S4.out L5.out.size); clear tok5)
    | (have _t := tok3; refine wpList_app' rfl _ _ rfl (w.heap.size + 2) _ Y5 rfl (O5.out.alloc _) _ [0, 0, 0, 17] rfl (bs_new w5 [0, 0, 0, 17] _ 5 _ rfl (by decide)) (by rw [N5.out, N4.out, N2.out, N1.out, HA.out, HB.out]; simp) (by rw [size_alloc]; exact Nat.le_succ_of_le S5.out) ?_; intro Y6 a6 c6 w6 E6 O6 L6 N6 hc6; have L6' : Hid (Below (w.heap.size + 2) w5 w6) := ((below_alloc _ _).mono S5.out).trans L6.out; clear tok3))
  go_ret
  refine ⟨Y6, a6, c6, rfl, ?_, O6.out.mono (by omega), ?_, hc6.1, hc6.2⟩
  · rw [E6.out, E5.out, E4.out, E2.out, E1.out]
    rw [show numB false n 4 = [0, 0] ++ numB false n 2 by
      simp only [numB, leB, Bool.false_eq_true, if_false, Nat.div_div_eq_div_mul]
      have h1 : n / 65536 = 0 := by omega
      have h2 : n / 16777216 = 0 := by omega
      simp [h1, h2]]
    simp [aheadB]
  · exact HE.out.trans (((((L1.out.trans L2.out).trans L4.out).trans L5.out).trans L6'.out).mono (by omega))
theorem rahead_any (w : World) (s t : Bool) (A B : List UInt8) (n : Nat) (hA : A.length = 16) (hB : B.length = 16) (hn : n ≤ 65535) :
    Calls Try.prog 61 #[.agg (adrC s A), .agg (adrC t B), .int .i64 n] w (OwnRet' w (· = aheadB s A B n)) := by
  cases s
  · exact rahead4 w t A B n hA hB hn
  · exact rahead6 w t A B n hA hB hn
end Go.Proofs.Ytnckmaieghlpmaa
namespace Go.Proofs.Ytnckmaieghlpmaa
open Go.RowKit
set_option linter.unusedVariables false

set_option maxHeartbeats 1000000 in
theorem clone_any (w : World) (v : Value) (bs : List UInt8) (hb : Bs w v bs) (hl : bs.length ≤ 4294967296) :
    Calls Try.prog 35 #[v] w (OwnRet w bs) := by
  have HB := Lib.hid hb
  obtain ⟨a, c, rfl, hl1, hl2, hat⟩ := hb
  have HAT := Lib.hid hat
  clear hat
  unfold maxLen at hl2
  cases a with
  | none =>
    have hb0 : bs = [] := by
      rcases HAT.out with h | ⟨b, o, e, _⟩
      · exact h
      · cases e
    subst hb0
    have hnil := Lib.run_eql_slice_nil (P := Try.prog) w 24 5 none 0 c 0 0 Try.underlying24
    go_enter Try.func35, Try.ntmps35
    go_wp2
    go_ret
    exact ⟨_, rfl, own_nil _ _, Below.refl _ _⟩
  | some ad =>
    have hnil := Lib.run_eql_slice_nil (P := Try.prog) w 24 5 (some ad) bs.length c 0 0 Try.underlying24
    go_enter Try.func35, Try.ntmps35
    go_wp2_with (at_builtin; refine wpList_app rfl _ _ rfl w.heap.size _ [] rfl (own_lit _ [] _ _ rfl (Nat.le_refl _) (Nat.zero_le _)) _ bs rfl (HB.out.alloc _) (by simp; omega) (by simp) ?_; intro a1 c1 w1 hown1 hbel1 hc1)
    go_ret
    exact ⟨_, rfl, by simpa using hown1, (below_alloc _ _).trans (hbel1.mono (by simp))⟩

/-- the first k pairs are turned about -/
def Turned (xs : List UInt8) (k : Nat) (ys : List UInt8) : Prop :=
  ys.length = xs.length ∧ ∀ p, p < xs.length → ys[p]? = if p < k ∨ xs.length - 1 - k < p then xs[xs.length - 1 - p]? else xs[p]?

theorem turned_start (xs : List UInt8) : Turned xs 0 xs := ⟨rfl, fun p hp => by rw [if_neg (by omega)]⟩
theorem turned_step {xs ys : List UInt8} {k : Nat} {a b : UInt8} (h : Turned xs k ys) (hk : k < xs.length - 1 - k) (ha : ys[k]? = some a) (hb : ys[xs.length - 1 - k]? = some b) :
    Turned xs (k + 1) ((ys.set k b).set (xs.length - 1 - k) a) := by
  refine ⟨by simp [h.1], fun p hp => ?_⟩
  have ha' := h.2 k (by omega)
  rw [if_neg (by omega), ha] at ha'
  have hb' := h.2 (xs.length - 1 - k) (by omega)
  rw [if_neg (by omega), hb] at hb'
  by_cases h1 : p = xs.length - 1 - k
  · rw [h1, List.getElem?_set_self (by simp [h.1]; omega), if_pos (by omega), show xs.length - 1 - (xs.length - 1 - k) = k by omega]
    exact ha'
  · rw [List.getElem?_set_ne (by omega)]
    by_cases h2 : p = k
    · rw [h2, List.getElem?_set_self (by rw [h.1]; omega), if_pos (by omega)]
      exact hb'
    · rw [List.getElem?_set_ne (by omega), h.2 p hp]
      by_cases h3 : p < k ∨ xs.length - 1 - k < p
      · rw [if_pos h3, if_pos (by omega)]
      · rw [if_neg h3, if_neg (by omega)]
theorem turned_end {xs ys : List UInt8} {k : Nat} (h : Turned xs k ys) (hk : xs.length - 1 - k ≤ k) : ys = xs.reverse := by
  apply List.ext_getElem?
  intro p
  by_cases hp : p < xs.length
  · rw [h.2 p hp, List.getElem?_reverse hp]
    by_cases h3 : p < k ∨ xs.length - 1 - k < p
    · rw [if_pos h3]
    · rw [if_neg h3, show xs.length - 1 - p = p by omega]
  · rw [List.getElem?_eq_none (by rw [h.1]; omega), List.getElem?_eq_none (by simp; omega)]

theorem own_store' {w : World} {base g cap : Nat} {bs : List UInt8} (h : Own w base (.slice (some ⟨g, 0, none⟩) bs.length cap) bs) (j : Nat) (x : UInt8) :
    Own (w.setCell ⟨g, j, none⟩ (byteV x)) base (.slice (some ⟨g, 0, none⟩) (bs.set j x).length cap) (bs.set j x) := by
  rw [List.length_set]; exact own_store h j x

/-- what Reverse does to a slice of the call's own -/
def RevRet (w : World) (base : Nat) (v : Value) (bs : List UInt8) (e : Ending) (w' : World) : Prop :=
  e = .returned (.tuple #[]) ∧ Own w' base v bs.reverse ∧ Below base w w'

set_option maxHeartbeats 2000000 in
theorem reverse_any (w : World) (base : Nat) (v : Value) (bs : List UInt8) (hb : Own w base v bs) (hl : bs.length ≤ 4294967296) :
    Calls Try.prog 36 #[v] w (RevRet w base v bs) := by
  by_cases h0 : bs.length ≤ 1
  · have hr : bs.reverse = bs := by
      match bs, h0 with
      | [], _ => rfl
      | [x], _ => rfl
    have HO : Hid (Own w base v bs.reverse) := by rw [hr]; exact hb
    obtain ⟨a, c, rfl, hl1, hl2⟩ := hb.slice
    clear hb hr
    go_enter Try.func36, Try.ntmps36
    go_wp2
    refine wp_loop_rounds 1 ?_
    rw [rounds_succ]
    go_wp2
    go_end0
    exact ⟨rfl, HO.out, Below.refl _ _⟩
  · obtain ⟨g, cap, rfl, hge, hlt, hc1, hc2⟩ : ∃ g cap, v = .slice (some ⟨g, 0, none⟩) bs.length cap ∧ base ≤ g ∧ g < w.heap.size ∧ bs.length ≤ cap ∧ cap ≤ maxLen := by
      rcases hb.shape with ⟨_, h⟩ | h
      · simp [h] at h0
      · exact h
    unfold maxLen at hc2
    have HO := Lib.hid hb
    clear hb
    obtain ⟨n, hn⟩ : ∃ n, n = bs.length := ⟨_, rfl⟩
    rw [← hn] at h0 hc1 hl ⊢
    have HN := Lib.hid hn
    clear hn
    go_enter Try.func36, Try.ntmps36
    go_wp2
    go_loopw [2, 3] (fun i j wr => ∃ k : Nat, i = .int .i64 k ∧ j = .int .i64 ((n : Int) - 1 - k) ∧ k < n ∧ Hid (∃ ys, Own wr base (.slice (some ⟨g, 0, none⟩) ys.length cap) ys ∧ Turned bs k ys ∧ Below base w wr)) (fun i _ _ => n - (intOf i).toNat)
    case atStart => exact ⟨0, rfl, by go_num, by omega, bs, by have := HO.out; exact this, turned_start bs, Below.refl _ _⟩
    case round =>
      obtain ⟨k, rfl, rfl, hk, HX⟩ := hrel
      obtain ⟨ys, hys⟩ := HX.out
      have HS := Lib.hid hys
      have hyl : ys.length = n := by rw [HN.out]; exact hys.2.1.1
      have HL := Lib.hid hyl
      clear hys HX hyl
      by_cases hlt2 : k < n - 1 - k
      · obtain ⟨x, hx⟩ : ∃ x, ys[k]? = some x := ⟨ys[k]'(by rw [HL.out]; omega), by rw [List.getElem?_eq_getElem]⟩
        obtain ⟨y, hy⟩ : ∃ y, ys[n - 1 - k]? = some y := ⟨ys[n - 1 - k]'(by rw [HL.out]; omega), by rw [List.getElem?_eq_getElem]⟩
        have hcx := own_cell (j := k) HS.out.1 hx
        have hcy := own_cell (j := n - 1 - k) HS.out.1 hy
        have hf := fun j => own_free HS.out.1 j
        have hf1 := hf k
        have hf2 := hf (n - 1 - k)
        have HXX := Lib.hid hx
        have HYY := Lib.hid hy
        obtain ⟨m, hm⟩ : ∃ m, (n : Int) - 1 - (k : Int) = (m : Nat) ∧ m = n - 1 - k := ⟨n - 1 - k, by omega, rfl⟩
        have hmk : (k : Int) < (m : Int) := by omega
        obtain ⟨hm1, hm2⟩ := hm
        rw [← hm2] at hcy hf2 HYY
        have HM2 := Lib.hid hm2
        have hmn : m < n := by omega
        clear hx hy hf hlt2 hm2
        go_wp2_with fail
        go_region
        go_wp2
        go_roundw
        case rel =>
          refine ⟨k + 1, by go_num, by go_num, by omega, (ys.set k y).set m x, ?_, ?_, ((HS.out.2.2.setCell hge _).setCell hge _).drew⟩
          · have h1 := own_store' (own_store' HS.out.1 k y) m x
            exact h1.drew
          · have h2 := HM2.out
            have h3 := turned_step HS.out.2.1 (by rw [← HN.out]; omega) HXX.out (by rw [← HN.out, ← h2]; exact HYY.out)
            rw [← HN.out, ← h2] at h3
            exact h3
        case measure => simp [intOf]; omega
      · have hge2 : ¬ (k : Int) < (n : Int) - 1 - (k : Int) := by omega
        have hend := turned_end HS.out.2.1 (by rw [← HN.out]; omega)
        go_wp2
        go_end0
        refine ⟨rfl, ?_, HS.out.2.2⟩
        have := HS.out.1
        rw [HL.out] at this
        rw [← hend]; exact this
end Go.Proofs.Ytnckmaieghlpmaa
namespace Go.Proofs.Ytnckmaieghlpmaa
open Go.RowKit
set_option linter.unusedVariables false

/-- the cells of an address and a port -/
def endC (six : Bool) (A : List UInt8) (p : Nat) : Array Value := (Value.bool six :: (A.map byteV ++ [.int .u16 (p : Int)])).toArray
theorem end_adr {w : World} {g : Nat} {six : Bool} {A : List UInt8} {p : Nat} {t : TypeId} {fr : Nat × Nat} (h : w.heap[g]? = some (.cells (endC six A p) t fr)) : AdrAt w g 0 six A := fun j v hv => by
  rw [Nat.zero_add, cell_of_row w g j _ _ _ h, endC, List.getElem?_toArray]
  rw [adr_list] at hv
  rw [← List.cons_append, List.getElem?_append_left (List.getElem?_eq_some_iff.1 hv).1]; exact hv
theorem end_port {w : World} {g : Nat} {six : Bool} {A : List UInt8} {p : Nat} {t : TypeId} {fr : Nat × Nat} (h : w.heap[g]? = some (.cells (endC six A p) t fr)) (hA : A.length = 16) : w.cell? ⟨g, 17, none⟩ = some (.int .u16 (p : Int)) := by
  rw [cell_of_row w g 17 _ _ _ h, endC, List.getElem?_toArray, List.getElem?_cons_succ, List.getElem?_append_right (by simp [hA])]
  simp [hA]
theorem end_size (six : Bool) (A : List UInt8) (p : Nat) : (endC six A p).size = A.length + 2 := by simp [endC]

/-- a datagram's bytes but for its checksum -/
def udp0 (sp dp : Nat) (data : List UInt8) : List UInt8 := numB false sp 2 ++ numB false dp 2 ++ numB false (8 + data.length) 2 ++ [0, 0] ++ data
def udpS (six : Bool) (A B : List UInt8) (sp dp : Nat) (data : List UInt8) : Nat :=
  if csum (aheadB six A B (8 + data.length) ++ udp0 sp dp data) = 0 then 65535 else csum (aheadB six A B (8 + data.length) ++ udp0 sp dp data)
/-- a datagram's bytes -/
def udpB (six : Bool) (A B : List UInt8) (sp dp : Nat) (data : List UInt8) : List UInt8 :=
  numB false sp 2 ++ numB false dp 2 ++ numB false (8 + data.length) 2 ++ numB false (udpS six A B sp dp data) 2 ++ data
theorem udp0_len (sp dp : Nat) (data : List UInt8) : (udp0 sp dp data).length = 8 + data.length := by simp [udp0, numB_length]; omega
theorem udpB_len (six : Bool) (A B : List UInt8) (sp dp : Nat) (data : List UInt8) : (udpB six A B sp dp data).length = 8 + data.length := by simp [udpB, numB_length]; omega
theorem udpB_set (six : Bool) (A B : List UInt8) (sp dp : Nat) (data : List UInt8) :
    ((udp0 sp dp data).set 6 (UInt8.ofNat (udpS six A B sp dp data / 256 % 256))).set 7 (UInt8.ofNat (udpS six A B sp dp data % 256)) = udpB six A B sp dp data := by
  simp only [udp0, udpB, numB2]; rfl

/-- what Put returns -/
def PutRet (w : World) (P : List UInt8 → Prop) (e : Ending) (w' : World) : Prop :=
  ∃ Y a c, e = .returned (.tuple #[.slice a Y.length c, .int .i64 0]) ∧ P Y ∧ Own w' w.heap.size (.slice a Y.length c) Y ∧ Below w.heap.size w w' ∧ Y.length ≤ c ∧ c ≤ 9223372036854775807
def PutErr (w : World) (k : Nat) (e : Ending) (w' : World) : Prop :=
  e = .returned (.tuple #[.slice none 0 0, .int .i64 k]) ∧ Below w.heap.size w w'

/-- both ends in their blocks -/
structure EndsAt (w w2 : World) (s t : Bool) (A B : List UInt8) (sp dp : Nat) : Prop where
  one : AdrAt w2 w.heap.size 0 s A
  two : AdrAt w2 (w.heap.size + 1) 0 t B
  p1 : w2.cell? ⟨w.heap.size, 17, none⟩ = some (.int .u16 (sp : Int))
  p2 : w2.cell? ⟨w.heap.size + 1, 17, none⟩ = some (.int .u16 (dp : Int))
  sz : w2.heap.size = w.heap.size + 2
  bel : Below w.heap.size w w2
theorem ends_new (w : World) (s t : Bool) (A B : List UInt8) (sp dp : Nat) (hA : A.length = 16) (hB : B.length = 16) :
    EndsAt w ((w.alloc (.cells (endC s A sp) 61)).alloc (.cells (endC t B dp) 61)) s t A B sp dp := by
  have h1 := heap_alloc2_old w (.cells (endC s A sp) 61) (.cells (endC t B dp) 61)
  have h2 := heap_alloc2_new w (.cells (endC s A sp) 61) (.cells (endC t B dp) 61)
  exact ⟨end_adr h1, end_adr h2, end_port h1 hA, end_port h2 hB, by simp, ((Below.refl _ _).alloc (Nat.le_refl _) _).alloc (by simp) _⟩
theorem Bs.keepB {w w' : World} {v : Value} {bs : List UInt8} {B : Nat} (h : Bs w v bs) (hb : Below B w w') (hB : w.heap.size ≤ B) : Bs w' v bs := h.same fun p v hv => by
  rw [hb.cell (Nat.lt_of_lt_of_le (World.block_lt_of_cell? w p hv) hB)]; exact hv

theorem up_size {W : Nat} {w2 w' : World} (hs : w2.heap.size = W + 2) (h : Below (W + 2) w2 w') : W + 2 ≤ w'.heap.size := hs ▸ h.size
theorem up_call {W : Nat} {w2 w' w'' : World} (hs : w2.heap.size = W + 2) (hb : Below w'.heap.size w' w'') (h : Below (W + 2) w2 w') : Below (W + 2) w2 w'' := h.trans (hb.mono (up_size hs h))
theorem up_alloc {W : Nat} {w2 w' : World} (hs : w2.heap.size = W + 2) (o : Obj) (h : Below (W + 2) w2 w') : Below (W + 2) w2 (w'.alloc o) := h.alloc (up_size hs h) o
theorem up_set {W g : Nat} {w2 w' : World} (u u' : Value) (hg : W + 2 ≤ g) (h : Below (W + 2) w2 w') : Below (W + 2) w2 ((w'.setCell ⟨g, 0, none⟩ u).setCell ⟨g, 1, none⟩ u') := (h.setCell hg _).setCell hg _
/-- a new row in its block, nothing put in yet -/
def HdAt (w : World) (g : Nat) : Prop := w.heap[g]? = some (.cells #[.slice none 0 0, .bool false] 30 (0, 0))
def HdOk (w : World) (g n : Nat) : Prop := HdAt w g ∧ g < n
theorem hd_first {X w' : World} (b : Below (X.alloc (.cells #[.slice none 0 0, .bool false] 30)).heap.size (X.alloc (.cells #[.slice none 0 0, .bool false] 30)) w') : HdOk w' X.heap.size (X.alloc (.cells #[.slice none 0 0, .bool false] 30)).heap.size :=
  ⟨(b.block _ (by simp)).trans (heap_alloc_new _ _), by simp⟩
theorem hd_next {w w' : World} {g n : Nat} (b : Below w.heap.size w w') (h : HdOk w g n) : HdOk w' g w.heap.size := ⟨(b.block _ (lt_of_block h.1)).trans h.1, lt_of_block h.1⟩
theorem up_relA {W : Nat} {w2 w7 : World} {base : Nat} {Y : List UInt8} {a : Option Addr} {c : Nat} (hb : W + 2 ≤ base) (o : Own w7 base (.slice a Y.length c) Y) (h : Below (W + 2) w2 (w7.alloc (.cells #[.slice a Y.length c, .bool false] 30))) :
    (w7.alloc (.cells #[.slice a Y.length c, .bool false] 30)).cell? ⟨w7.heap.size, 0, none⟩ = some (.slice a Y.length c) ∧ Own (w7.alloc (.cells #[.slice a Y.length c, .bool false] 30)) (W + 2) (.slice a Y.length c) Y ∧ Below (W + 2) w2 (w7.alloc (.cells #[.slice a Y.length c, .bool false] 30)) :=
  ⟨World.cell?_alloc_new .., (o.alloc _).mono hb, h⟩
theorem up_relB {W g : Nat} {w2 w7 : World} {base : Nat} {Y : List UInt8} {a : Option Addr} {c : Nat} (hb : W + 2 ≤ base) (hg : g < base) (hd : HdAt w7 g) (o : Own w7 base (.slice a Y.length c) Y)
    (h : Below (W + 2) w2 ((w7.setCell ⟨g, 0, none⟩ (.slice a Y.length c)).setCell ⟨g, 1, none⟩ (.bool false))) :
    ((w7.setCell ⟨g, 0, none⟩ (.slice a Y.length c)).setCell ⟨g, 1, none⟩ (.bool false)).cell? ⟨g, 0, none⟩ = some (.slice a Y.length c) ∧ Own ((w7.setCell ⟨g, 0, none⟩ (.slice a Y.length c)).setCell ⟨g, 1, none⟩ (.bool false)) (W + 2) (.slice a Y.length c) Y ∧
      Below (W + 2) w2 ((w7.setCell ⟨g, 0, none⟩ (.slice a Y.length c)).setCell ⟨g, 1, none⟩ (.bool false)) := by
  refine ⟨?_, (own_set (own_set o (by exact hg) _) (by exact hg) _).mono hb, h⟩
  have h1 := heap_setCell_same w7 g 0 _ 30 (.slice a Y.length c) hd
  have h2 := heap_setCell_same _ g 1 _ 30 (.bool false) h1
  rw [cell_of_row _ g 0 _ _ _ h2]; rfl
theorem up_ports {W sp dp : Nat} {w2 w'' : World} (h1 : w2.cell? ⟨W, 17, none⟩ = some (.int .u16 (sp : Int))) (h2 : w2.cell? ⟨W + 1, 17, none⟩ = some (.int .u16 (dp : Int))) (h : Below (W + 2) w2 w'') :
    w''.cell? ⟨W, 17, none⟩ = some (.int .u16 (sp : Int)) ∧ w''.cell? ⟨W + 1, 17, none⟩ = some (.int .u16 (dp : Int)) ∧ Below (W + 2) w2 w'' :=
  ⟨(h.cell (p := ⟨W, 17, none⟩) (by show W < W + 2; omega)).trans h1, (h.cell (p := ⟨W + 1, 17, none⟩) (by show W + 1 < W + 2; omega)).trans h2, h⟩

set_option maxRecDepth 100000 in
set_option maxHeartbeats 1000000 in
theorem uput_no (w : World) (s t : Bool) (A B : List UInt8) (sp dp : Nat) (v : Value) (bs : List UInt8) (hA : A.length = 16) (hB : B.length = 16) (hb : Bs w v bs) (hl : bs.length ≤ 300) (hst : s ≠ t) :
    Calls Try.prog 40 #[.agg (endC s A sp), .agg (endC t B dp), v] w (PutErr w 2) := by
  have hst' : (s != t) = true := by simpa using hst
  have HE : Hid (EndsAt w _ s t A B sp dp) := ends_new w s t A B sp dp hA hB
  have HA := Lib.hid hA
  have HB := Lib.hid hB
  obtain ⟨a, c, rfl, hl1, hl2, hat⟩ := hb
  unfold maxLen at hl2
  clear hat hA hB hst
  go_enter Try.func40, Try.ntmps40
  go_wp2_with (first | ((with_reducible refine wpList_load54 w.heap.size 0 s A ?_ ?_ ?_ ?_); rfl; exact HE.out.one; exact HA.out) | ((with_reducible refine wpList_load54 (w.heap.size + 1) 0 t B ?_ ?_ ?_ ?_); rfl; exact HE.out.two; exact HB.out))
  refine (mixed_any _ s t A B).mono ?_
  rintro e w2 ⟨rfl, hb2⟩
  rw [hst']
  have HX : Hid (Below w.heap.size w w2) := HE.out.bel.trans (hb2.mono HE.out.bel.size)
  clear hb2 hst'
  go_wp2_with fail
  go_ret2
  exact ⟨rfl, HX.out⟩

set_option maxRecDepth 100000 in
set_option maxHeartbeats 2000000 in
theorem uput_yes (w : World) (s : Bool) (A B : List UInt8) (sp dp : Nat) (v : Value) (bs : List UInt8) (hA : A.length = 16) (hB : B.length = 16) (hb : Bs w v bs) (hl : bs.length ≤ 300) (hsp : sp < 65536) (hdp : dp < 65536) :
    Calls Try.prog 40 #[.agg (endC s A sp), .agg (endC s B dp), v] w (PutRet w (· = udpB s A B sp dp bs)) := by
  have HE : Hid (EndsAt w _ s s A B sp dp) := ends_new w s s A B sp dp hA hB
  have HBS := Lib.hid hb
  have HA := Lib.hid hA
  have HB := Lib.hid hB
  obtain ⟨a, c, rfl, hl1, hl2, hat⟩ := hb
  unfold maxLen at hl2
  clear hat hA hB
  obtain ⟨X, hX⟩ : ∃ X, X = udpB s A B sp dp bs := ⟨_, rfl⟩
  rw [← hX]
  have HX := Lib.hid hX
  clear hX
  go_enter Try.func40, Try.ntmps40
  go_wp2_with (first | ((with_reducible refine wpList_load54 w.heap.size 0 s A ?_ ?_ ?_ ?_); rfl; exact HE.out.one; exact HA.out) | ((with_reducible refine wpList_load54 (w.heap.size + 1) 0 s B ?_ ?_ ?_ ?_); rfl; exact HE.out.two; exact HB.out))
  generalize (w.alloc (.cells (endC s A sp) 61)).alloc (.cells (endC s B dp) 61) = w2 at HE ⊢
  have hsz := HE.out.sz
  obtain ⟨W, hW⟩ : ∃ W, W = w.heap.size := ⟨_, rfl⟩
  have HW := Lib.hid hW
  have HE' : Hid (AdrAt w2 W 0 s A ∧ AdrAt w2 (W + 1) 0 s B ∧ w2.cell? ⟨W, 17, none⟩ = some (.int .u16 (sp : Int)) ∧ w2.cell? ⟨W + 1, 17, none⟩ = some (.int .u16 (dp : Int)) ∧ w2.heap.size = W + 2) := by
    rw [hW]; exact ⟨HE.out.one, HE.out.two, HE.out.p1, HE.out.p2, HE.out.sz⟩
  have HBS2 : Hid (Bs w2 (.slice a bs.length c) bs) := HBS.out.keepB HE.out.bel (Nat.le_refl _)
  rw [← hW]
  clear hsz hW
  refine (mixed_any _ s s A B).mono ?_
  rintro e w3 ⟨rfl, hb3⟩
  rw [show (s != s) = false by simp]
  have L3 : Hid (Below (W + 2) w2 w3) := by
    have := HE'.out.2.2.2.2; rw [this] at hb3; exact hb3
  clear hb3
  go_upto_region 6 with fail
  obtain ⟨nn, hnn⟩ : ∃ nn : Nat, nn = 8 + bs.length := ⟨_, rfl⟩
  have hn16 : nn < 65536 := by omega
  have g1 : IntKind.u64.wrap (sp : Int) = (sp : Int) := Go.wraps_u64 _ (by omega) (by omega)
  have g2 : IntKind.u64.wrap (dp : Int) = (dp : Int) := Go.wraps_u64 _ (by omega) (by omega)
  have g3 : IntKind.u64.wrap (8 + (bs.length : Int)) = (nn : Int) := by rw [Go.wraps_u64 _ (by omega) (by omega)]; omega
  have HNN := Lib.hid hnn
  clear hnn
  have tok1 : True := trivial
  have tok2 : True := trivial
  have tok3 : True := trivial
  have tok4 : True := trivial
  go_cut [9] (fun s9 wx => ∃ (g : Nat) (Y : List UInt8) (a1 : Option Addr) (c1 : Nat), s9 = .pointer (some ⟨g, 0, none⟩) ∧ wx.cell? ⟨g, 0, none⟩ = some (.slice a1 Y.length c1) ∧
    Hid (Y = numB false sp 2 ++ numB false dp 2 ++ numB false nn 2 ++ [0, 0] ∧ Own wx (W + 2) (.slice a1 Y.length c1) Y ∧ Below (W + 2) w2 wx))
  case first =>
    go_region_held3 (fun w' => w'.cell? ⟨W, 17, none⟩ = some (.int .u16 (sp : Int)) ∧ w'.cell? ⟨W + 1, 17, none⟩ = some (.int .u16 (dp : Int)) ∧ Below (W + 2) w2 w')
      ((go_split_ands; refine up_ports HE'.out.2.2.1 HE'.out.2.2.2.1 ?_; first
        | exact L3.out.drew
        | exact up_call HE'.out.2.2.2.2 (by assumption) (by assumption)
        | exact up_alloc HE'.out.2.2.2.2 _ (by assumption)
        | exact up_set _ _ (up_size HE'.out.2.2.2.2 (by assumption)) (by assumption)
        | fail))
      (first
        | (go_at_call 33; have _t := tok1; go_split_ands; refine (put' _ _ [] false sp 2 (own_nil _ 0).bs (by simp) (by omega) (by omega)).mono ?_; rintro e w4 ⟨Y1, a1, c1, rfl, e1, o1, b1, q1, q2⟩; have E1 := Lib.hid e1; have O1 := Lib.hid o1.bs; (first | (have G1 : HdOk _ w3.heap.size _ := hd_first (X := w3) ⟨b1.os, b1.tape, b1.output, b1.size, b1.block⟩; have gc1 := two_cells G1.1) | skip); have P1 := up_call HE'.out.2.2.2.2 b1 (by assumption); clear tok1 e1 o1; dsimp only)
        | (go_at_call 33; have _t := tok2; go_split_ands; refine (put' _ _ Y1 false dp 2 (by first | exact O1.out | exact O1.out.alloc _) (by rw [E1.out]; simp [numB_length]) (by omega) (by omega)).mono ?_; rintro e w5 ⟨Y2, a2, c2, rfl, e2, o2, b2, q3, q4⟩; have E2 := Lib.hid e2; have O2 := Lib.hid o2.bs; (first | (have G2 := hd_first b2; have gc2 := two_cells G2.1) | (have G2 := hd_next b2 G1; have gc2 := two_cells G2.1) | skip); have P2 := up_call HE'.out.2.2.2.2 b2 (by assumption); clear tok2 e2 o2; dsimp only)
        | (go_at_call 33; have _t := tok3; go_split_ands; refine (put' _ _ Y2 false nn 2 (by first | exact O2.out | exact O2.out.alloc _) (by rw [E2.out, E1.out]; simp [numB_length]) (by omega) (by omega)).mono ?_; rintro e w6 ⟨Y3, a3, c3, rfl, e3, o3, b3, q5, q6⟩; have E3 := Lib.hid e3; have O3 := Lib.hid o3.bs; (first | (have G3 := hd_first b3; have gc3 := two_cells G3.1) | (have G3 := hd_next b3 G2; have gc3 := two_cells G3.1) | skip); have P3 := up_call HE'.out.2.2.2.2 b3 (by assumption); clear tok3 e3 o3; dsimp only)
        | (go_at_call 33; have _t := tok4; go_split_ands; refine (put' _ _ Y3 false 0 2 (by first | exact O3.out | exact O3.out.alloc _) (by rw [E3.out, E2.out, E1.out]; simp [numB_length]) (by omega) (by omega)).mono ?_; rintro e w7 ⟨Y4, a4, c4, rfl, e4, o4, b4, q7, q8⟩; have E4 := Lib.hid e4; have O4 := Lib.hid o4; (first | (have G4 := hd_first b4; have gc4 := two_cells G4.1) | (have G4 := hd_next b4 G3; have gc4 := two_cells G4.1) | skip); have P4 := up_call HE'.out.2.2.2.2 b4 (by assumption); clear tok4 e4 o4; dsimp only)
        | fail)
    all_goals
      go_wp2_with fail
      go_meet
    all_goals
      refine ⟨_, Y4, a4, c4, rfl, ?_⟩
      have hY : Y4 = numB false sp 2 ++ numB false dp 2 ++ numB false nn 2 ++ [0, 0] := by
        have q1 : Y1 = [] ++ numB false sp 2 := E1.out
        have q2 : Y2 = Y1 ++ numB false dp 2 := E2.out
        have q3 : Y3 = Y2 ++ numB false nn 2 := E3.out
        have q4 : Y4 = Y3 ++ numB false 0 2 := E4.out
        rw [q4, q3, q2, q1]; rfl
      rename_i hh
      first
        | (have hr := up_relA (by first | exact up_size HE'.out.2.2.2.2 (by assumption) | (simp; exact Nat.le_succ_of_le (up_size HE'.out.2.2.2.2 (by assumption)))) O4.out hh.2.2; exact ⟨hr.1, hY, hr.2.1, hr.2.2⟩)
        | (have hr := up_relB (by first | exact up_size HE'.out.2.2.2.2 (by assumption) | (simp; exact Nat.le_succ_of_le (up_size HE'.out.2.2.2.2 (by assumption)))) G4.2 G4.1 O4.out hh.2.2; exact ⟨hr.1, hY, hr.2.1, hr.2.2⟩)
  case rest =>
    obtain ⟨g, Y, a1, c1, rfl, hc, HY⟩ := hcut
    have hYl : Y.length = 8 := by rw [HY.out.1]; simp [numB_length]
    have HYL := Lib.hid hYl
    have HBc : Hid (Bs wc (.slice a bs.length c) bs) := HBS2.out.keepB HY.out.2.2 (Nat.le_of_eq HE'.out.2.2.2.2)
    have HSc := Lib.hid (up_size HE'.out.2.2.2.2 HY.out.2.2)
    clear hYl g1 g2 g3 L3 HBS
    go_wp2_with (first
      | (at_builtin; refine wpList_app' rfl _ _ rfl (W + 2) _ Y rfl HY.out.2.1 _ bs rfl HBc.out (by rw [HYL.out]; omega) HSc.out ?_; intro Y2 a2 c2 w8 E2 O2 L2 N2 hc2; have L8 : Hid (Below (W + 2) w2 w8) := HY.out.2.2.trans L2.out)
      | ((with_reducible refine wpList_load54 W 0 s A ?_ ?_ ?_ ?_); rfl; exact HE'.out.1.keep L8.out (by omega); exact HA.out)
      | ((with_reducible refine wpList_load54 (W + 1) 0 s B ?_ ?_ ?_ ?_); rfl; exact HE'.out.2.1.keep L8.out (by omega); exact HB.out))
    have hY2 : Y2 = udp0 sp dp bs := by
      have q1 : Y2 = Y ++ bs := E2.out
      rw [q1, HY.out.1, udp0, HNN.out]
    have hY2l : Y2.length = nn := by rw [hY2, udp0_len, HNN.out]
    obtain ⟨C, hC⟩ : ∃ C, C = csum (aheadB s A B Y2.length ++ Y2) := ⟨_, rfl⟩
    have hS : udpS s A B sp dp bs = if C = 0 then 65535 else C := by rw [hC, hY2l, hY2, HNN.out]; rfl
    have hC16 : C ≤ 65535 := by rw [hC]; unfold csum; omega
    obtain ⟨gb, cap, he, hgb1, hgb2, hgb3, hgb4⟩ : ∃ gb cap, Value.slice a2 Y2.length c2 = .slice (some ⟨gb, 0, none⟩) Y2.length cap ∧ W + 2 ≤ gb ∧ gb < w8.heap.size ∧ Y2.length ≤ cap ∧ cap ≤ maxLen := by
      rcases O2.out.shape with ⟨_, h⟩ | h
      · rw [h] at hY2l; simp at hY2l; have := HNN.out; omega
      · exact h
    simp only [Value.slice.injEq, true_and] at he
    obtain ⟨rfl, rfl⟩ := he
    have HC := Lib.hid hC
    have HS := Lib.hid hS
    have HY2 := Lib.hid hY2
    have HY2L := Lib.hid hY2l
    have hge8 : 8 ≤ Y2.length := by rw [hY2l, HNN.out]; omega
    have HG := Lib.hid hgb2
    clear hC hS hY2 hY2l hgb2 hgb4
    refine (usum_any _ s s A B _ Y2 HA.out HB.out O2.out.bs (by rw [HY2L.out]; omega)).mono ?_
    rintro e w9 ⟨rfl, hb9⟩
    rw [← HC.out]
    have O9 : Hid (Own w9 (W + 2) (.slice (some ⟨gb, 0, none⟩) Y2.length c2) Y2) := O2.out.below hb9
    have L9 : Hid (Below (W + 2) w2 w9) := up_call HE'.out.2.2.2.2 hb9 L8.out
    have x6 := own_cell O9.out (j := 6) (x := Y2[6]'(by omega)) (by rw [List.getElem?_eq_getElem])
    have x7 := own_cell O9.out (j := 7) (x := Y2[7]'(by omega)) (by rw [List.getElem?_eq_getElem])
    have f6 := own_free O9.out 6
    have f7 := own_free O9.out 7
    have i6 : (6 : Int) < (Y2.length : Int) := by omega
    have i7 : (7 : Int) < (Y2.length : Int) := by omega
    have hXl : X.length = Y2.length := by rw [HX.out, udpB_len, HY2L.out, HNN.out]
    have HXL := Lib.hid hXl
    clear hb9 hXl
    by_cases hc0 : C = 0
    · have hset : (Y2.set 6 255).set 7 255 = X := by
        have q := udpB_set s A B sp dp bs
        rw [HS.out, if_pos hc0] at q
        rw [HX.out, ← q, HY2.out]; rfl
      have hfin := own_store' (own_store' O9.out 6 255) 7 255
      rw [hset] at hfin
      have HF := Lib.hid hfin
      subst hc0
      clear hset hfin HC HS
      go_wp2_with fail
      go_ret2
      refine ⟨X, some ⟨gb, 0, none⟩, c2, by rw [HXL.out]; rfl, rfl, HF.out.mono (by rw [HW.out]; omega), ?_, by rw [HXL.out]; exact hgb3, hc2.2⟩
      rw [← HW.out]
      exact (((HW.out ▸ HE.out.bel : Below W w w2).trans (L9.out.mono (by omega))).setCell (by show W ≤ gb; omega) _).setCell (by show W ≤ gb; omega) _
    · obtain ⟨hi, hhi⟩ : ∃ hi, hi = UInt8.ofNat (C / 256 % 256) := ⟨_, rfl⟩
      obtain ⟨lo, hlo⟩ : ∃ lo, lo = UInt8.ofNat (C % 256) := ⟨_, rfl⟩
      have e1 : (C : Int) / 256 = (hi.toNat : Int) := by rw [hhi]; simp; omega
      have e2 : IntKind.u8.wrap (C : Int) = (lo.toNat : Int) := by rw [hlo, IntKind.wrap_u8]; simp
      have hset : (Y2.set 6 hi).set 7 lo = X := by
        have q := udpB_set s A B sp dp bs
        rw [HS.out, if_neg hc0] at q
        rw [HX.out, ← q, HY2.out, hhi, hlo]
      have hfin := own_store' (own_store' O9.out 6 hi) 7 lo
      rw [hset] at hfin
      have HF := Lib.hid hfin
      have hbyt : hi.toNat < 256 := hi.toNat_lt
      have z1 : ((C : Int) == 0) = false := by simp; omega
      clear hset hfin HC HS hhi hlo hc0
      go_wp2_with fail
      go_ret2
      refine ⟨X, some ⟨gb, 0, none⟩, c2, by rw [HXL.out]; rfl, rfl, HF.out.mono (by rw [HW.out]; omega), ?_, by rw [HXL.out]; exact hgb3, hc2.2⟩
      rw [← HW.out]
      exact (((HW.out ▸ HE.out.bel : Below W w w2).trans (L9.out.mono (by omega))).setCell (by show W ≤ gb; omega) _).setCell (by show W ≤ gb; omega) _

end Go.Proofs.Ytnckmaieghlpmaa
namespace Go.Proofs.Ytnckmaieghlpmaa
open Go.RowKit
set_option linter.unusedVariables false

theorem info61s : (Try.prog.info? 61).map (·.size) = some 18 := by kernel_rfl
theorem end_oneCell (six : Bool) (A : List UInt8) (p : Nat) : (endC six A p).all (·.oneCell') = true := by
  unfold endC
  exact all_oneCell_toArray (cs := Value.bool six :: (A.map byteV ++ [.int .u16 (p : Int)])) (fun v hv => by
    rcases List.mem_cons.1 hv with rfl | h
    · rfl
    · rcases List.mem_append.1 h with h | h
      · exact bytes_oneCell A v h
      · simp at h; subst h; rfl)

/-- an aggregate is built -/
theorem wpList_buildP {P : Program} (t : TypeId) (cells : Array Value) {ops : Array Oper} {rest : List Oper} {dst : Option Tmp} {parts : Array (Nat × Operand)} {ty : TypeId} {pos : String} {aft : Array Edge} {a : Act} {w : World} {Q : Exit → Act → World → Prop}
    (hb : P.built t (parts.toList.map fun p => (p.1, a.eval p.2)) = some cells)
    (h : wpList P ops Q rest (a.put dst (.agg cells)) w) : wpList P ops Q (⟨dst, .build t parts, ty, pos, aft, none⟩ :: rest) a w :=
  wpList_plain rfl fun K hK => by
    have hb' : P.built t (parts.map fun (i, x) => (i, a.eval x)).toList = some cells := by rw [Array.toList_map]; exact hb
    refine wp_build t parts rfl (by simp only [hb', Option.isSome_some]) ?_
    simp only [hb', Option.getD_some]
    exact hK _ _ h
theorem wpList_build (t : TypeId) (cells : Array Value) {ops : Array Oper} {rest : List Oper} {dst : Option Tmp} {parts : Array (Nat × Operand)} {ty : TypeId} {pos : String} {aft : Array Edge} {a : Act} {w : World} {Q : Exit → Act → World → Prop}
    (hb : Try.prog.built t (parts.toList.map fun p => (p.1, a.eval p.2)) = some cells)
    (h : wpList Try.prog ops Q rest (a.put dst (.agg cells)) w) : wpList Try.prog ops Q (⟨dst, .build t parts, ty, pos, aft, none⟩ :: rest) a w := wpList_buildP t cells hb h

/-- both ends lie in block g -/
def EndAt (w : World) (g : Nat) (s : Bool) (A : List UInt8) (p : Nat) : Prop := w.heap[g]? = some (.cells (endC s A p) 61 (0, 0))
theorem EndAt.below {w w' : World} {g : Nat} {s : Bool} {A : List UInt8} {p : Nat} (h : EndAt w g s A p) (hb : Below w.heap.size w w') : EndAt w' g s A p := (hb.block g (lt_of_block h)).trans h
theorem EndAt.keep {w w' : World} {B g : Nat} {s : Bool} {A : List UInt8} {p : Nat} (h : EndAt w g s A p) (hb : Below B w w') (hg : g < B) : EndAt w' g s A p := (hb.block g hg).trans h
theorem EndAt.adr {w : World} {g : Nat} {s : Bool} {A : List UInt8} {p : Nat} (h : EndAt w g s A p) : AdrAt w g 0 s A := end_adr h
theorem endAt_new (w : World) (s : Bool) (A : List UInt8) (p : Nat) : EndAt (w.alloc (.cells (endC s A p) 61)) w.heap.size s A p := heap_alloc_new _ _

theorem wpList_load61 (g : Nat) (s : Bool) (A : List UInt8) (p : Nat) {ops : Array Oper} {rest : List Oper} {dst : Option Tmp} {x : Tmp} {ty : TypeId} {pos : String} {aft : Array Edge} {a : Act} {w : World} {Q : Exit → Act → World → Prop}
    (hx : a.eval (.tmp x) = .pointer (some ⟨g, 0, none⟩)) (hg : EndAt w g s A p) (hA : A.length = 16)
    (h : wpList Try.prog ops Q rest (a.put dst (.agg (endC s A p))) w) : wpList Try.prog ops Q (⟨dst, .load 61 (.tmp x), ty, pos, aft, none⟩ :: rest) a w :=
  wpList_load_row rfl 61 (.tmp x) rfl g hx 61 _ (0, 0) _ hg Try.underlying61 rfl (by rw [info61s, end_size, hA]) h

theorem wpList_store61 (w0 : World) (g : Nat) (s : Bool) (A : List UInt8) (p : Nat) {old : Array Value} {ops : Array Oper} {rest : List Oper} {dst : Option Tmp} {x y : Tmp} {ty : TypeId} {pos : String} {aft : Array Edge} {a : Act} {Q : Exit → Act → World → Prop}
    (hx : a.eval (.tmp x) = .pointer (some ⟨g, 0, none⟩)) (hy : a.eval (.tmp y) = .agg (endC s A p)) (hg : g = w0.heap.size) (hold : old.size = 18) (hA : A.length = 16)
    (h : wpList Try.prog ops Q rest (a.put dst undef) (w0.alloc (.cells (endC s A p) 61))) : wpList Try.prog ops Q (⟨dst, .store 61 (.tmp x) (.tmp y), ty, pos, aft, none⟩ :: rest) a (w0.alloc (.cells old 61)) := by
  subst hg
  refine wpList_store_row rfl 61 (.tmp x) (.tmp y) rfl w0.heap.size 61 old (endC s A p) hx hy (heap_alloc_new _ _) (by rw [info61s, end_size, hA]) (by rw [hold, end_size, hA]) (end_oneCell s A p) ?_
  rw [World.setRow_alloc_new]
  exact h
end Go.Proofs.Ytnckmaieghlpmaa
