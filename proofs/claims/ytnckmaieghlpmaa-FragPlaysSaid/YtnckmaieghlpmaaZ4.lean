/-
  slices.Delete of one packet, as a law on an own row.
  frag.New; horologelaw17.great.
-/
import Derived.Test.YtnckmaieghlpmaaPdel
import Derived.Test.YtnckmaieghlpmaaZ3
namespace Go.Proofs.Ytnckmaieghlpmaa
open Go.RowKit
set_option linter.unusedVariables false

/-- what a deletion leaves -/
def DelRet (w : World) (base : Nat) (s : Value) (n : Nat) (xs : List Value) (e : Ending) (w' : World) : Prop :=
  ∃ v', e = .returned v' ∧ w'.ownsRow base 124 37 v' n xs ∧ w.grownBy w' s.ownBlock ∧ v'.ownBlock = s.ownBlock
theorem delete_any (w : World) (base n i : Nat) (s : Value) (xs : List Value) (hown : w.ownsRow base 124 37 s n xs) (hi : i < n) (h1c : ∀ u ∈ xs, u.oneCell' = true) :
    Calls Try.prog 69 #[s, .int .i64 i, .int .i64 ((i : Int) + 1)] w (DelRet w base s (n - 1) (xs.take (i * 37) ++ xs.drop (i * 37 + 37))) := by
  have hxl := hown.1
  have hle : (i + 1) * 37 ≤ n * 37 := Nat.mul_le_mul_right 37 hi
  have hmul : (i + 1) * 37 = i * 37 + 37 := Nat.succ_mul i 37
  have hsub : (n - 1) * 37 = n * 37 - 37 := by rw [Nat.sub_mul]
  have hfin : (xs.take (i * 37) ++ xs.drop (i * 37 + 37)).length = (n - 1) * 37 := by
    simp only [List.length_append, List.length_take, List.length_drop, hxl]; omega
  rcases hown.2 with ⟨_, rfl⟩ | ⟨g, cap, cur, rfl, hbg, hg, hnc, hcm, hcs, htake⟩
  · omega
  · have hnl : n * 37 ≤ cap * 37 := Nat.mul_le_mul_right 37 hnc
    refine (del_at w n i cap g cur hg hcs hi hnc (by unfold maxLen at hcm; omega) (by rw [htake]; exact h1c)).mono ?_
    rintro e w' ⟨rfl, Z, c1, hZ, hc1, rfl⟩
    obtain ⟨q1, q2, q3⟩ := del_list cur.toList Z (i * 37) (n * 37) 37 (by omega) hZ (by rw [Array.length_toList, hcs]; exact hnl)
    rw [← hc1, ← hsub] at q1 q2
    rw [htake, List.append_assoc] at q1
    rw [List.append_assoc] at q2
    have hrow : (w.drew.setRow g c1.toArray).heap[g]? = some (.cells c1.toArray 124 (0, 0)) := setRow_heap w.drew g cur _ 124 _ hg
    refine ⟨_, rfl, ⟨hfin, .inr ⟨g, cap, _, rfl, hbg, setRow_heap _ g _ _ 124 _ hrow, by omega, hcm, ?_, ?_⟩⟩, ⟨rfl, rfl, rfl, by simp [World.setRow], fun k hk hkn => ?_⟩, rfl⟩
    · rw [List.size_toArray, q2, Array.length_toList, hcs]
    · exact q1
    · have hkg : k ≠ g := fun e => hkn (by rw [e]; rfl)
      rw [setRow_other _ _ _ _ hkg, setRow_other _ _ _ _ hkg]; rfl
end Go.Proofs.Ytnckmaieghlpmaa
namespace Go.Proofs.Ytnckmaieghlpmaa
open Go.RowKit
set_option linter.unusedVariables false
attribute [local go_sem ↓] fold_ld90 fold_st90 Go.wp_at_zero Go.wp_at_succ
attribute [local go_sem] ld90_at st90_at

theorem new_any (w : World) (many most : Int) :
    Calls Try.prog 49 #[.int .i64 many, .int .i64 most] w fun e w' => e = .returned (.pointer (some ⟨w.heap.size, 0, none⟩)) ∧ w' = w.alloc (.cells #[.int .i64 many, .int .i64 most, .slice none 0 0] 115) := by
  go_enter Try.func49, Try.ntmps49
  go_wp2_with fail
  go_ret
  exact ⟨rfl, rfl⟩

/-- are the parts more than are asked? -/
def greatB (L : List (PartD × Value)) : Bool := (L.take 60).any (fun x => decide (200 < x.1.bs.length)) || decide (60 < L.length)
theorem greatB_no {L : List (PartD × Value)} (h : greatB L = false) : L.length ≤ 60 ∧ ∀ x ∈ L, x.1.bs.length ≤ 200 := by
  unfold greatB at h
  simp only [Bool.or_eq_false_iff, decide_eq_false_iff_not, List.any_eq_false] at h
  refine ⟨by omega, fun x hx => ?_⟩
  have := h.1 x (by rw [List.take_of_length_le (by omega)]; exact hx)
  simp at this; omega
def PsOk (w : World) (L : List (PartD × Value)) : Prop := ∀ x ∈ L, x.1.nm.ok ∧ Bs w x.2 x.1.bs

set_option maxHeartbeats 1000000 in
theorem great_any (w : World) (a : Option Addr) (c : Nat) (L : List (PartD × Value)) (hl : L.length ≤ c) (hc : c ≤ 9223372036854775807) (hL : PsAt w a L) (hok : PsOk w L) :
    Calls Try.prog 48 #[.slice a L.length c] w fun e w' => e = .returned (.bool (greatB L)) ∧ w = w' := by
  have HL := Lib.hid hL
  have HK := Lib.hid hok
  clear hL hok
  obtain ⟨n, hn⟩ : ∃ n, n = L.length := ⟨_, rfl⟩
  rw [← hn] at hl ⊢
  have HNN := Lib.hid hn
  clear hn
  obtain ⟨R, hR⟩ : ∃ R, R = greatB L := ⟨_, rfl⟩
  rw [← hR]
  have HR := Lib.hid hR
  clear hR
  go_enter Try.func48, Try.ntmps48
  go_wp2_with fail
  go_loop [3] (fun i => ∃ k : Nat, i = .int .i64 k ∧ k ≤ n ∧ k ≤ 60 ∧ Hid (∀ j x, L[j]? = some x → j < k → x.1.bs.length ≤ 200)) (fun i => n - (intOf i).toNat)
  case atStart => exact ⟨0, rfl, Nat.zero_le _, Nat.zero_le _, fun j x _ h => absurd h (by omega)⟩
  case round =>
    obtain ⟨k, rfl, hk, hk60, HX⟩ := hrel
    by_cases hlt : k < n
    · by_cases h60 : k < 60
      · obtain ⟨x, hx⟩ : ∃ x, L[k]? = some x := ⟨L[k]'(by rw [← HNN.out]; exact hlt), by rw [List.getElem?_eq_getElem]⟩
        obtain ⟨b, o, rfl, hps⟩ : ∃ b o, a = some ⟨b, o, none⟩ ∧ ∀ i x, L[i]? = some x → PtAt w b (o + i * 39) x.1 x.2 := by
          rcases HL.out with h | h
          · rw [h] at hx; simp at hx
          · exact h
        have hxm := HK.out x (List.mem_of_getElem? hx)
        have hcell := ((hps k x hx).cells hxm.1).2.2
        obtain ⟨a1, c1, hv, hl1, hl2, _⟩ := hxm.2
        rw [hv] at hcell
        have HXX := Lib.hid hx
        have HVV := Lib.hid hv
        clear hps hx hxm hv
        obtain ⟨m, hm⟩ : ∃ m, m = x.1.bs.length := ⟨_, rfl⟩
        rw [← hm] at hcell hl1
        have HM := Lib.hid hm
        clear hm
        by_cases h200 : 200 < m
        · go_wp2_with fail
          go_ret
          refine ⟨?_, rfl⟩
          have : greatB L = true := by
            unfold greatB
            rw [Bool.or_eq_true, List.any_eq_true]
            refine .inl ⟨x, List.mem_of_getElem? (i := k) (by rw [List.getElem?_take, if_pos h60]; exact HXX.out), ?_⟩
            have := HM.out
            simp; omega
          rw [HR.out, this]; rfl
        · go_wp2_with fail
          go_round
          case rel =>
            refine ⟨k + 1, by go_num, by omega, by omega, fun j y hy hj => ?_⟩
            by_cases hjk : j = k
            · subst hjk
              rw [HXX.out] at hy; cases hy
              have := HM.out; omega
            · exact HX.out j y hy (by omega)
          case measure => simp [intOf]; omega
      · have h6 : k = 60 := by omega
        subst h6
        have hg : greatB L = decide (60 < n) := by
          unfold greatB
          have : (L.take 60).any (fun x => decide (200 < x.1.bs.length)) = false := by
            rw [List.any_eq_false]
            intro x hx
            obtain ⟨j, hj⟩ := List.getElem?_of_mem hx
            rw [List.getElem?_take] at hj
            split at hj
            · have := HX.out j x hj (by assumption)
              simp; omega
            · cases hj
          rw [this, HNN.out]; rfl
        have HG := Lib.hid hg
        clear hg
        go_wp2_with fail
        go_ret
        exact ⟨by rw [HR.out, HG.out]; simp; omega, rfl⟩
    · have hkn : k = n := by omega
      subst hkn
      have hg : greatB L = false := by
        unfold greatB
        have : (L.take 60).any (fun x => decide (200 < x.1.bs.length)) = false := by
          rw [List.any_eq_false]
          intro x hx
          obtain ⟨j, hj⟩ := List.getElem?_of_mem (List.mem_of_mem_take hx)
          have hjl := (List.getElem?_eq_some_iff.1 hj).1
          have := HX.out j x hj (by rw [HNN.out]; exact hjl)
          simp; omega
        rw [this, ← HNN.out]; simp; omega
      have HG := Lib.hid hg
      clear hg
      go_wp2_with fail
      go_ret
      exact ⟨by rw [HR.out, HG.out]; simp; omega, rfl⟩
end Go.Proofs.Ytnckmaieghlpmaa
