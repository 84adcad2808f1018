/-
  slices.BinarySearchFunc over parts, by their place.
-/
import Derived.Test.YtnckmaieghlpmaaZ3
import Derived.Test.YtnckmaieghlpmaaPclash
namespace Go.Proofs.Ytnckmaieghlpmaa
open Go.RowKit
set_option linter.unusedVariables false
set_option linter.unusedSimpArgs false
attribute [local go_sem ↓] fold_ld90 fold_st90 Go.wp_at_zero Go.wp_at_succ
attribute [local go_sem] ld90_at st90_at

/-- a place that may be -/
def PosOk (p : PartD) : Prop := 0 ≤ p.pos ∧ p.pos ≤ 9223372036854775807
set_option maxHeartbeats 400000 in
theorem take5_any (w : World) (p q : PartD) (v u : Value) (hp : p.nm.ok) (hq : q.nm.ok) (h1 : PosOk p) (h2 : PosOk q) :
    Calls Try.prog 76 #[.agg (partA p v), .agg (partA q u)] w fun e w' => e = .returned (.int .i64 (p.pos - q.pos)) ∧ Below w.heap.size w w' := by
  obtain ⟨c1, _, _⟩ := partA_at hp v
  obtain ⟨d1, _, _⟩ := partA_at hq u
  have HN : Hid (Below w.heap.size w ((w.alloc (.cells (partA p v) 90)).alloc (.cells (partA q u) 90))) := Lib.hid (((Below.refl _ _).alloc (Nat.le_refl _) _).alloc (by simp) _)
  obtain ⟨h11, h12⟩ := h1
  obtain ⟨h21, h22⟩ := h2
  have hw : IntKind.i64.wrap (p.pos - q.pos) = p.pos - q.pos := IntWalk.i64_in _ (by omega)
  clear hp hq
  go_enter Try.func76, Try.ntmps76
  go_wp2_with fail
  go_ret
  exact ⟨rfl, HN.out⟩

/-- the place of the first part that does not begin ahead -/
def bsI (pos : Int) (L : List (PartD × Value)) : Nat := L.findIdx fun x => decide (pos ≤ x.1.pos)
theorem bsI_eq {pos : Int} {L : List (PartD × Value)} {i : Nat} (hi : i ≤ L.length) (h1 : ∀ j x, L[j]? = some x → j < i → x.1.pos < pos) (h2 : ∀ j x, L[j]? = some x → i ≤ j → pos ≤ x.1.pos) : bsI pos L = i := by
  unfold bsI
  by_cases h : i < L.length
  · rw [List.findIdx_eq h]
    refine ⟨by simpa using h2 i _ (List.getElem?_eq_getElem h) (Nat.le_refl _), fun j hj => ?_⟩
    have := h1 j _ (List.getElem?_eq_getElem (by omega)) hj
    simp; omega
  · have e : i = L.length := by omega
    rw [e, List.findIdx_eq_length]
    intro x hx
    obtain ⟨j, hj⟩ := List.getElem?_of_mem hx
    have := h1 j x hj (by rw [e]; exact (List.getElem?_eq_some_iff.1 hj).1)
    simp; omega

def BsS (W w' : World) (b o g : Nat) (x p : PartD) (u v : Value) : Prop :=
  has w' b o 39 = true ∧ rd w' b o 39 = partA x u ∧ has w' g 0 39 = true ∧ rd w' g 0 39 = partA p v ∧ Below (g + 1) W w'
set_option maxRecDepth 100000 in
set_option maxHeartbeats 4000000 in
theorem bs_any (w : World) (a : Option Addr) (c : Nat) (L : List (PartD × Value)) (p : PartD) (v : Value) (hl : L.length ≤ c) (hl62 : L.length ≤ 4611686018427387903) (hc : c ≤ 9223372036854775807) (hL : PsAt w a L) (hok : ∀ x ∈ L, x.1.nm.ok) (hps : ∀ x ∈ L, PosOk x.1) (hp : p.nm.ok) (hpp : PosOk p)
    (hs : ∀ (i j : Nat) (x y : PartD × Value), L[i]? = some x → L[j]? = some y → i ≤ j → x.1.pos ≤ y.1.pos) :
    Calls Try.prog 75 #[.slice a L.length c, .agg (partA p v), .func (.func 76) #[] #[]] w fun e w' => (∃ r, e = .returned (.tuple #[.int .i64 (bsI p.pos L : Nat), .bool r])) ∧ Below w.heap.size w w' := by
  obtain ⟨W, hW⟩ : ∃ W, W = w.alloc (.cells (partA p v) 90) := ⟨_, rfl⟩
  have hsz : W.heap.size = w.heap.size + 1 := by rw [hW]; simp
  have HSZ := Lib.hid hsz
  have HN : Hid (Below w.heap.size w W) := Lib.hid (by rw [hW]; exact below_alloc w _)
  have HT : Hid (∀ b o (x : PartD) (u : Value) w', x.nm.ok → PtAt w b o x u → Below (w.heap.size + 1) W w' → BsS W w' b o w.heap.size x p u v) := Lib.hid (fun b o x u w' hx hxa hb => by
    have h1 : PtAt w' b o x u := (hxa.below HN.out).below (by rw [hsz]; exact hb)
    have h2 : PtAt w' w.heap.size 0 p v := (hW ▸ ptAt_new w p v 90 : PtAt W w.heap.size 0 p v).below (by rw [hsz]; exact hb)
    exact ⟨h1.has hx, h1.rd hx, h2.has hp, h2.rd hp, hb⟩)
  have HP := Lib.hid hp
  have HPP := Lib.hid hpp
  have HL := Lib.hid hL
  have HK := Lib.hid hok
  have HPO := Lib.hid hps
  have HSO := Lib.hid hs
  clear hp hpp hL hok hs hps hsz
  obtain ⟨n, hn⟩ : ∃ n, n = L.length := ⟨_, rfl⟩
  rw [← hn] at hl hl62 ⊢
  have HNN := Lib.hid hn
  clear hn
  obtain ⟨R, hR⟩ : ∃ R, R = bsI p.pos L := ⟨_, rfl⟩
  rw [← hR]
  have HR := Lib.hid hR
  clear hR
  go_enter Try.func75, Try.ntmps75
  go_wp2_with fail
  rw [← hW]
  have HW := Lib.hid hW
  clear hW
  go_loopw [9, 10] (fun i j wr => ∃ k m : Nat, i = .int .i64 k ∧ j = .int .i64 m ∧ k ≤ m ∧ m ≤ n ∧ Hid ((∀ j x, L[j]? = some x → j < k → x.1.pos < p.pos) ∧ (∀ j x, L[j]? = some x → m ≤ j → p.pos ≤ x.1.pos) ∧ Below (w.heap.size + 1) W wr)) (fun i j _ => (intOf j - intOf i).toNat)
  case atStart => exact ⟨0, n, rfl, rfl, Nat.zero_le _, Nat.le_refl _, fun j x _ h => absurd h (by omega), fun j x hx hj => absurd (List.getElem?_eq_some_iff.1 hx).1 (by rw [← HNN.out]; omega), Below.refl _ _⟩
  case round =>
    obtain ⟨k, m, rfl, rfl, hkm, hmn, HX⟩ := hrel
    by_cases hlt : k < m
    · obtain ⟨hh, heq, hlo, hhi⟩ : ∃ hh : Nat, ((k : Int) + m) / 2 = hh ∧ k ≤ hh ∧ hh < m := ⟨(k + m) / 2, by omega, by omega, by omega⟩
      obtain ⟨x, hx⟩ : ∃ x, L[hh]? = some x := ⟨L[hh]'(by rw [← HNN.out]; omega), by rw [List.getElem?_eq_getElem]⟩
      obtain ⟨b, o, rfl, hpt⟩ : ∃ b o, a = some ⟨b, o, none⟩ ∧ ∀ i x, L[i]? = some x → PtAt w b (o + i * 39) x.1 x.2 := by
        rcases HL.out with h | h
        · rw [h] at hx; simp at hx
        · exact h
      have HXM : Hid (x ∈ L) := Lib.hid (List.mem_of_getElem? hx)
      have HTT := Lib.hid (HT.out b (o + hh * 39) x.1 x.2 · (HK.out x HXM.out) (hpt hh x hx))
      have HXX := Lib.hid hx
      have hhn : hh < n := by omega
      clear hx hpt
      go_wp2_with fail
      by_cases hcmp : x.1.pos - p.pos < 0
      · skip
        refine wp_region_held_drew (S := fun w' => BsS W w' b (o + hh * 39) w.heap.size x.1 p x.2 v) (by kernel_rfl) (HTT.out _ HX.out.2.2.drew) (fun hHeld => ?_)
        refine' wpAnyH_take (i := 0) (v := _) rfl (by kernel_rfl) (by kernel_rfl) (by kernel_rfl) (fun _ _ _ h => h) (Or.inl ⟨by rfl, ?hy1x0⟩) hHeld ?rest1x0
        case hy1x0 => (intro w' hS; obtain ⟨s1, s2, s3, s4, s5⟩ := hS; (try simp only [List.getElem_toArray, List.getElem_cons_zero, List.getElem_cons_succ]); go_simp; try with_reducible rfl)
        try simp only [List.getElem_toArray, List.getElem_cons_zero, List.getElem_cons_succ, Act.put, List.setIfInBounds_toArray, List.set_cons_zero, List.set_cons_succ]
        refine' wpAnyH_take (i := 1) (v := _) rfl (by kernel_rfl) (by kernel_rfl) (by kernel_rfl) (fun _ _ _ h => h) (Or.inl ⟨by rfl, ?hy1x1⟩) hHeld ?rest1x1
        case hy1x1 => (intro w' hS; obtain ⟨s1, s2, s3, s4, s5⟩ := hS; (try simp only [List.getElem_toArray, List.getElem_cons_zero, List.getElem_cons_succ]); go_simp; try with_reducible rfl)
        try simp only [List.getElem_toArray, List.getElem_cons_zero, List.getElem_cons_succ, Act.put, List.setIfInBounds_toArray, List.set_cons_zero, List.set_cons_succ]
        refine' wpAnyH_take (i := 2) (v := _) rfl (by kernel_rfl) (by kernel_rfl) (by kernel_rfl) (fun _ _ _ h => h) (Or.inl ⟨by rfl, ?hy1x2⟩) hHeld ?rest1x2
        case hy1x2 => (intro w' hS; obtain ⟨s1, s2, s3, s4, s5⟩ := hS; (try simp only [List.getElem_toArray, List.getElem_cons_zero, List.getElem_cons_succ]); go_simp; try with_reducible rfl)
        try simp only [List.getElem_toArray, List.getElem_cons_zero, List.getElem_cons_succ, Act.put, List.setIfInBounds_toArray, List.set_cons_zero, List.set_cons_succ]
        refine' wpAnyH_take (i := 3) (v := _) rfl (by kernel_rfl) (by kernel_rfl) (by kernel_rfl) (fun _ _ _ h => h) (Or.inl ⟨by rfl, ?hy1x3⟩) hHeld ?rest1x3
        case hy1x3 => (intro w' hS; obtain ⟨s1, s2, s3, s4, s5⟩ := hS; (try simp only [List.getElem_toArray, List.getElem_cons_zero, List.getElem_cons_succ]); go_simp; try with_reducible rfl)
        try simp only [List.getElem_toArray, List.getElem_cons_zero, List.getElem_cons_succ, Act.put, List.setIfInBounds_toArray, List.set_cons_zero, List.set_cons_succ]
        refine' wpAnyH_take (i := 4) (v := _) rfl (by kernel_rfl) (by kernel_rfl) (by kernel_rfl) (fun _ _ _ h => h) (Or.inl ⟨by rfl, ?hy1x4⟩) hHeld ?rest1x4
        case hy1x4 => (intro w' hS; obtain ⟨s1, s2, s3, s4, s5⟩ := hS; (try simp only [List.getElem_toArray, List.getElem_cons_zero, List.getElem_cons_succ]); go_simp; try with_reducible rfl)
        try simp only [List.getElem_toArray, List.getElem_cons_zero, List.getElem_cons_succ, Act.put, List.setIfInBounds_toArray, List.set_cons_zero, List.set_cons_succ]
        refine' wpAnyH_take (i := 5) (v := _) rfl (by kernel_rfl) (by kernel_rfl) (by kernel_rfl) (fun _ _ _ h => h) (Or.inl ⟨by rfl, ?hy1x5⟩) hHeld ?rest1x5
        case hy1x5 => (intro w' hS; obtain ⟨s1, s2, s3, s4, s5⟩ := hS; (try simp only [List.getElem_toArray, List.getElem_cons_zero, List.getElem_cons_succ]); go_simp; try with_reducible rfl)
        try simp only [List.getElem_toArray, List.getElem_cons_zero, List.getElem_cons_succ, Act.put, List.setIfInBounds_toArray, List.set_cons_zero, List.set_cons_succ]
        refine wpAnyH_ready (rs := [6]) (by kernel_rfl) (by simp) ?_
        refine AllReadyH.cons rfl (fun K hK => ?_) AllReadyH.nil
        obtain ⟨s1, s2, s3, s4, s5⟩ := hHeld
        go_simp
        refine (take5_any _ x.1 p x.2 v (HK.out _ HXM.out) HP.out (HPO.out _ HXM.out) HPP.out).mono ?_
        rintro e z1 ⟨rfl, hb⟩
        have B1 : Hid (Below (w.heap.size + 1) W z1) := Lib.hid (s5.trans (hb.mono (by have := s5.size; have := HSZ.out; omega)))
        clear s1 s2 s3 s4 s5 hb
        go_wp2_with fail
        refine hK.out _ _ (HTT.out _ B1.out) (fun hHeld => ?_)
        clear hK K
        try simp only [List.getElem_toArray, List.getElem_cons_zero, List.getElem_cons_succ, Act.put, List.setIfInBounds_toArray, List.set_cons_zero, List.set_cons_succ]
        refine' wpAnyH_take (i := 7) (v := _) rfl (by kernel_rfl) (by kernel_rfl) (by kernel_rfl) (fun _ _ _ h => h) (Or.inl ⟨by rfl, ?hy1x7⟩) hHeld ?rest1x7
        case hy1x7 => (intro w' hS; obtain ⟨s1, s2, s3, s4, s5⟩ := hS; (try simp only [List.getElem_toArray, List.getElem_cons_zero, List.getElem_cons_succ]); go_simp; try with_reducible rfl)
        try simp only [List.getElem_toArray, List.getElem_cons_zero, List.getElem_cons_succ, Act.put, List.setIfInBounds_toArray, List.set_cons_zero, List.set_cons_succ]
        refine wpAnyH_done (by kernel_rfl) ?_ _
        go_wp2_with fail
        go_roundw
        case rel =>
          refine ⟨hh + 1, m, by go_num, rfl, by omega, hmn, ⟨fun j y hy hj => ?_, HX.out.2.1, B1.out⟩⟩
          have := HSO.out j hh y x hy HXX.out (by omega)
          omega
        case measure => simp [intOf]; omega
      
      · have hd : decide (x.1.pos - p.pos < 0) = false := by simp; omega
        skip
        refine wp_region_held_drew (S := fun w' => BsS W w' b (o + hh * 39) w.heap.size x.1 p x.2 v) (by kernel_rfl) (HTT.out _ HX.out.2.2.drew) (fun hHeld => ?_)
        refine' wpAnyH_take (i := 0) (v := _) rfl (by kernel_rfl) (by kernel_rfl) (by kernel_rfl) (fun _ _ _ h => h) (Or.inl ⟨by rfl, ?hy2x0⟩) hHeld ?rest2x0
        case hy2x0 => (intro w' hS; obtain ⟨s1, s2, s3, s4, s5⟩ := hS; (try simp only [List.getElem_toArray, List.getElem_cons_zero, List.getElem_cons_succ]); go_simp; try with_reducible rfl)
        try simp only [List.getElem_toArray, List.getElem_cons_zero, List.getElem_cons_succ, Act.put, List.setIfInBounds_toArray, List.set_cons_zero, List.set_cons_succ]
        refine' wpAnyH_take (i := 1) (v := _) rfl (by kernel_rfl) (by kernel_rfl) (by kernel_rfl) (fun _ _ _ h => h) (Or.inl ⟨by rfl, ?hy2x1⟩) hHeld ?rest2x1
        case hy2x1 => (intro w' hS; obtain ⟨s1, s2, s3, s4, s5⟩ := hS; (try simp only [List.getElem_toArray, List.getElem_cons_zero, List.getElem_cons_succ]); go_simp; try with_reducible rfl)
        try simp only [List.getElem_toArray, List.getElem_cons_zero, List.getElem_cons_succ, Act.put, List.setIfInBounds_toArray, List.set_cons_zero, List.set_cons_succ]
        refine' wpAnyH_take (i := 2) (v := _) rfl (by kernel_rfl) (by kernel_rfl) (by kernel_rfl) (fun _ _ _ h => h) (Or.inl ⟨by rfl, ?hy2x2⟩) hHeld ?rest2x2
        case hy2x2 => (intro w' hS; obtain ⟨s1, s2, s3, s4, s5⟩ := hS; (try simp only [List.getElem_toArray, List.getElem_cons_zero, List.getElem_cons_succ]); go_simp; try with_reducible rfl)
        try simp only [List.getElem_toArray, List.getElem_cons_zero, List.getElem_cons_succ, Act.put, List.setIfInBounds_toArray, List.set_cons_zero, List.set_cons_succ]
        refine' wpAnyH_take (i := 3) (v := _) rfl (by kernel_rfl) (by kernel_rfl) (by kernel_rfl) (fun _ _ _ h => h) (Or.inl ⟨by rfl, ?hy2x3⟩) hHeld ?rest2x3
        case hy2x3 => (intro w' hS; obtain ⟨s1, s2, s3, s4, s5⟩ := hS; (try simp only [List.getElem_toArray, List.getElem_cons_zero, List.getElem_cons_succ]); go_simp; try with_reducible rfl)
        try simp only [List.getElem_toArray, List.getElem_cons_zero, List.getElem_cons_succ, Act.put, List.setIfInBounds_toArray, List.set_cons_zero, List.set_cons_succ]
        refine' wpAnyH_take (i := 4) (v := _) rfl (by kernel_rfl) (by kernel_rfl) (by kernel_rfl) (fun _ _ _ h => h) (Or.inl ⟨by rfl, ?hy2x4⟩) hHeld ?rest2x4
        case hy2x4 => (intro w' hS; obtain ⟨s1, s2, s3, s4, s5⟩ := hS; (try simp only [List.getElem_toArray, List.getElem_cons_zero, List.getElem_cons_succ]); go_simp; try with_reducible rfl)
        try simp only [List.getElem_toArray, List.getElem_cons_zero, List.getElem_cons_succ, Act.put, List.setIfInBounds_toArray, List.set_cons_zero, List.set_cons_succ]
        refine' wpAnyH_take (i := 5) (v := _) rfl (by kernel_rfl) (by kernel_rfl) (by kernel_rfl) (fun _ _ _ h => h) (Or.inl ⟨by rfl, ?hy2x5⟩) hHeld ?rest2x5
        case hy2x5 => (intro w' hS; obtain ⟨s1, s2, s3, s4, s5⟩ := hS; (try simp only [List.getElem_toArray, List.getElem_cons_zero, List.getElem_cons_succ]); go_simp; try with_reducible rfl)
        try simp only [List.getElem_toArray, List.getElem_cons_zero, List.getElem_cons_succ, Act.put, List.setIfInBounds_toArray, List.set_cons_zero, List.set_cons_succ]
        refine wpAnyH_ready (rs := [6]) (by kernel_rfl) (by simp) ?_
        refine AllReadyH.cons rfl (fun K hK => ?_) AllReadyH.nil
        obtain ⟨s1, s2, s3, s4, s5⟩ := hHeld
        go_simp
        refine (take5_any _ x.1 p x.2 v (HK.out _ HXM.out) HP.out (HPO.out _ HXM.out) HPP.out).mono ?_
        rintro e z1 ⟨rfl, hb⟩
        have B1 : Hid (Below (w.heap.size + 1) W z1) := Lib.hid (s5.trans (hb.mono (by have := s5.size; have := HSZ.out; omega)))
        clear s1 s2 s3 s4 s5 hb
        go_wp2_with fail
        refine hK.out _ _ (HTT.out _ B1.out) (fun hHeld => ?_)
        clear hK K
        try simp only [List.getElem_toArray, List.getElem_cons_zero, List.getElem_cons_succ, Act.put, List.setIfInBounds_toArray, List.set_cons_zero, List.set_cons_succ]
        refine' wpAnyH_take (i := 7) (v := _) rfl (by kernel_rfl) (by kernel_rfl) (by kernel_rfl) (fun _ _ _ h => h) (Or.inl ⟨by rfl, ?hy2x7⟩) hHeld ?rest2x7
        case hy2x7 => (intro w' hS; obtain ⟨s1, s2, s3, s4, s5⟩ := hS; (try simp only [List.getElem_toArray, List.getElem_cons_zero, List.getElem_cons_succ]); go_simp; try with_reducible rfl)
        try simp only [List.getElem_toArray, List.getElem_cons_zero, List.getElem_cons_succ, Act.put, List.setIfInBounds_toArray, List.set_cons_zero, List.set_cons_succ]
        refine wpAnyH_done (by kernel_rfl) ?_ _
        go_wp2_with fail
        go_roundw
        case rel =>
          refine ⟨k, hh, rfl, rfl, hlo, by omega, ⟨HX.out.1, fun j y hy hj => ?_, B1.out⟩⟩
          have := HSO.out hh j x y HXX.out hy (by omega)
          omega
        case measure => simp [intOf]; omega
    · have hkm' : k = m := by omega
      subst hkm'
      have hres : R = k := by rw [HR.out]; exact bsI_eq (by rw [← HNN.out]; exact hmn) HX.out.1 HX.out.2.1
      subst hres
      by_cases hkn : R < n
      · obtain ⟨x, hx⟩ : ∃ x, L[R]? = some x := ⟨L[R]'(by rw [← HNN.out]; omega), by rw [List.getElem?_eq_getElem]⟩
        obtain ⟨b, o, rfl, hpt⟩ : ∃ b o, a = some ⟨b, o, none⟩ ∧ ∀ i x, L[i]? = some x → PtAt w b (o + i * 39) x.1 x.2 := by
          rcases HL.out with h | h
          · rw [h] at hx; simp at hx
          · exact h
        have HXM : Hid (x ∈ L) := Lib.hid (List.mem_of_getElem? hx)
        have HTT := Lib.hid (HT.out b (o + R * 39) x.1 x.2 · (HK.out x HXM.out) (hpt R x hx))
        clear hx hpt
        go_wp2_with fail
        refine wp_region_held_drew (S := fun w' => BsS W w' b (o + R * 39) w.heap.size x.1 p x.2 v) (by kernel_rfl) (HTT.out _ HX.out.2.2.drew) (fun hHeld => ?_)
        refine' wpAnyH_take (i := 0) (v := _) rfl (by kernel_rfl) (by kernel_rfl) (by kernel_rfl) (fun _ _ _ h => h) (Or.inl ⟨by rfl, ?hy3x0⟩) hHeld ?rest3x0
        case hy3x0 => (intro w' hS; obtain ⟨s1, s2, s3, s4, s5⟩ := hS; (try simp only [List.getElem_toArray, List.getElem_cons_zero, List.getElem_cons_succ]); go_simp; try with_reducible rfl)
        try simp only [List.getElem_toArray, List.getElem_cons_zero, List.getElem_cons_succ, Act.put, List.setIfInBounds_toArray, List.set_cons_zero, List.set_cons_succ]
        refine' wpAnyH_take (i := 1) (v := _) rfl (by kernel_rfl) (by kernel_rfl) (by kernel_rfl) (fun _ _ _ h => h) (Or.inl ⟨by rfl, ?hy3x1⟩) hHeld ?rest3x1
        case hy3x1 => (intro w' hS; obtain ⟨s1, s2, s3, s4, s5⟩ := hS; (try simp only [List.getElem_toArray, List.getElem_cons_zero, List.getElem_cons_succ]); go_simp; try with_reducible rfl)
        try simp only [List.getElem_toArray, List.getElem_cons_zero, List.getElem_cons_succ, Act.put, List.setIfInBounds_toArray, List.set_cons_zero, List.set_cons_succ]
        refine' wpAnyH_take (i := 2) (v := _) rfl (by kernel_rfl) (by kernel_rfl) (by kernel_rfl) (fun _ _ _ h => h) (Or.inl ⟨by rfl, ?hy3x2⟩) hHeld ?rest3x2
        case hy3x2 => (intro w' hS; obtain ⟨s1, s2, s3, s4, s5⟩ := hS; (try simp only [List.getElem_toArray, List.getElem_cons_zero, List.getElem_cons_succ]); go_simp; try with_reducible rfl)
        try simp only [List.getElem_toArray, List.getElem_cons_zero, List.getElem_cons_succ, Act.put, List.setIfInBounds_toArray, List.set_cons_zero, List.set_cons_succ]
        refine' wpAnyH_take (i := 3) (v := _) rfl (by kernel_rfl) (by kernel_rfl) (by kernel_rfl) (fun _ _ _ h => h) (Or.inl ⟨by rfl, ?hy3x3⟩) hHeld ?rest3x3
        case hy3x3 => (intro w' hS; obtain ⟨s1, s2, s3, s4, s5⟩ := hS; (try simp only [List.getElem_toArray, List.getElem_cons_zero, List.getElem_cons_succ]); go_simp; try with_reducible rfl)
        try simp only [List.getElem_toArray, List.getElem_cons_zero, List.getElem_cons_succ, Act.put, List.setIfInBounds_toArray, List.set_cons_zero, List.set_cons_succ]
        refine' wpAnyH_take (i := 4) (v := _) rfl (by kernel_rfl) (by kernel_rfl) (by kernel_rfl) (fun _ _ _ h => h) (Or.inl ⟨by rfl, ?hy3x4⟩) hHeld ?rest3x4
        case hy3x4 => (intro w' hS; obtain ⟨s1, s2, s3, s4, s5⟩ := hS; (try simp only [List.getElem_toArray, List.getElem_cons_zero, List.getElem_cons_succ]); go_simp; try with_reducible rfl)
        try simp only [List.getElem_toArray, List.getElem_cons_zero, List.getElem_cons_succ, Act.put, List.setIfInBounds_toArray, List.set_cons_zero, List.set_cons_succ]
        refine' wpAnyH_take (i := 5) (v := _) rfl (by kernel_rfl) (by kernel_rfl) (by kernel_rfl) (fun _ _ _ h => h) (Or.inl ⟨by rfl, ?hy3x5⟩) hHeld ?rest3x5
        case hy3x5 => (intro w' hS; obtain ⟨s1, s2, s3, s4, s5⟩ := hS; (try simp only [List.getElem_toArray, List.getElem_cons_zero, List.getElem_cons_succ]); go_simp; try with_reducible rfl)
        try simp only [List.getElem_toArray, List.getElem_cons_zero, List.getElem_cons_succ, Act.put, List.setIfInBounds_toArray, List.set_cons_zero, List.set_cons_succ]
        refine' wpAnyH_take (i := 6) (v := _) rfl (by kernel_rfl) (by kernel_rfl) (by kernel_rfl) (fun _ _ _ h => h) (Or.inl ⟨by rfl, ?hy3x6⟩) hHeld ?rest3x6
        case hy3x6 => (intro w' hS; obtain ⟨s1, s2, s3, s4, s5⟩ := hS; (try simp only [List.getElem_toArray, List.getElem_cons_zero, List.getElem_cons_succ]); go_simp; try with_reducible rfl)
        try simp only [List.getElem_toArray, List.getElem_cons_zero, List.getElem_cons_succ, Act.put, List.setIfInBounds_toArray, List.set_cons_zero, List.set_cons_succ]
        refine' wpAnyH_take (i := 7) (v := _) rfl (by kernel_rfl) (by kernel_rfl) (by kernel_rfl) (fun _ _ _ h => h) (Or.inl ⟨by rfl, ?hy3x7⟩) hHeld ?rest3x7
        case hy3x7 => (intro w' hS; obtain ⟨s1, s2, s3, s4, s5⟩ := hS; (try simp only [List.getElem_toArray, List.getElem_cons_zero, List.getElem_cons_succ]); go_simp; try with_reducible rfl)
        try simp only [List.getElem_toArray, List.getElem_cons_zero, List.getElem_cons_succ, Act.put, List.setIfInBounds_toArray, List.set_cons_zero, List.set_cons_succ]
        refine' wpAnyH_take (i := 8) (v := _) rfl (by kernel_rfl) (by kernel_rfl) (by kernel_rfl) (fun _ _ _ h => h) (Or.inl ⟨by rfl, ?hy3x8⟩) hHeld ?rest3x8
        case hy3x8 => (intro w' hS; obtain ⟨s1, s2, s3, s4, s5⟩ := hS; (try simp only [List.getElem_toArray, List.getElem_cons_zero, List.getElem_cons_succ]); go_simp; try with_reducible rfl)
        try simp only [List.getElem_toArray, List.getElem_cons_zero, List.getElem_cons_succ, Act.put, List.setIfInBounds_toArray, List.set_cons_zero, List.set_cons_succ]
        refine' wpAnyH_take (i := 9) (v := _) rfl (by kernel_rfl) (by kernel_rfl) (by kernel_rfl) (fun _ _ _ h => h) (Or.inl ⟨by rfl, ?hy3x9⟩) hHeld ?rest3x9
        case hy3x9 => (intro w' hS; obtain ⟨s1, s2, s3, s4, s5⟩ := hS; (try simp only [List.getElem_toArray, List.getElem_cons_zero, List.getElem_cons_succ]); go_simp; try with_reducible rfl)
        try simp only [List.getElem_toArray, List.getElem_cons_zero, List.getElem_cons_succ, Act.put, List.setIfInBounds_toArray, List.set_cons_zero, List.set_cons_succ]
        refine' wpAnyH_take (i := 10) (v := _) rfl (by kernel_rfl) (by kernel_rfl) (by kernel_rfl) (fun _ _ _ h => h) (Or.inl ⟨by rfl, ?hy3x10⟩) hHeld ?rest3x10
        case hy3x10 => (intro w' hS; obtain ⟨s1, s2, s3, s4, s5⟩ := hS; (try simp only [List.getElem_toArray, List.getElem_cons_zero, List.getElem_cons_succ]); go_simp; try with_reducible rfl)
        try simp only [List.getElem_toArray, List.getElem_cons_zero, List.getElem_cons_succ, Act.put, List.setIfInBounds_toArray, List.set_cons_zero, List.set_cons_succ]
        refine wpAnyH_ready (rs := [11]) (by kernel_rfl) (by simp) ?_
        refine AllReadyH.cons rfl (fun K hK => ?_) AllReadyH.nil
        obtain ⟨s1, s2, s3, s4, s5⟩ := hHeld
        go_simp
        refine (take5_any _ x.1 p x.2 v (HK.out _ HXM.out) HP.out (HPO.out _ HXM.out) HPP.out).mono ?_
        rintro e z1 ⟨rfl, hb⟩
        have B1 : Hid (Below (w.heap.size + 1) W z1) := Lib.hid (s5.trans (hb.mono (by have := s5.size; have := HSZ.out; omega)))
        clear s1 s2 s3 s4 s5 hb
        go_wp2_with fail
        refine hK.out _ _ (HTT.out _ B1.out) (fun hHeld => ?_)
        clear hK K
        try simp only [List.getElem_toArray, List.getElem_cons_zero, List.getElem_cons_succ, Act.put, List.setIfInBounds_toArray, List.set_cons_zero, List.set_cons_succ]
        refine' wpAnyH_take (i := 12) (v := _) rfl (by kernel_rfl) (by kernel_rfl) (by kernel_rfl) (fun _ _ _ h => h) (Or.inl ⟨by rfl, ?hy3x12⟩) hHeld ?rest3x12
        case hy3x12 => (intro w' hS; obtain ⟨s1, s2, s3, s4, s5⟩ := hS; (try simp only [List.getElem_toArray, List.getElem_cons_zero, List.getElem_cons_succ]); go_simp; try with_reducible rfl)
        try simp only [List.getElem_toArray, List.getElem_cons_zero, List.getElem_cons_succ, Act.put, List.setIfInBounds_toArray, List.set_cons_zero, List.set_cons_succ]
        refine' wpAnyH_take (i := 13) (v := _) rfl (by kernel_rfl) (by kernel_rfl) (by kernel_rfl) (fun _ _ _ h => h) (Or.inl ⟨by rfl, ?hy3x13⟩) hHeld ?rest3x13
        case hy3x13 => (intro w' hS; obtain ⟨s1, s2, s3, s4, s5⟩ := hS; (try simp only [List.getElem_toArray, List.getElem_cons_zero, List.getElem_cons_succ]); go_simp; try with_reducible rfl)
        try simp only [List.getElem_toArray, List.getElem_cons_zero, List.getElem_cons_succ, Act.put, List.setIfInBounds_toArray, List.set_cons_zero, List.set_cons_succ]
        refine' wpAnyH_take (i := 14) (v := _) rfl (by kernel_rfl) (by kernel_rfl) (by kernel_rfl) (fun _ _ _ h => h) (Or.inl ⟨by rfl, ?hy3x14⟩) hHeld ?rest3x14
        case hy3x14 => (intro w' hS; obtain ⟨s1, s2, s3, s4, s5⟩ := hS; (try simp only [List.getElem_toArray, List.getElem_cons_zero, List.getElem_cons_succ]); go_simp; try with_reducible rfl)
        try simp only [List.getElem_toArray, List.getElem_cons_zero, List.getElem_cons_succ, Act.put, List.setIfInBounds_toArray, List.set_cons_zero, List.set_cons_succ]
        refine' wpAnyH_take (i := 15) (v := _) rfl (by kernel_rfl) (by kernel_rfl) (by kernel_rfl) (fun _ _ _ h => h) (Or.inl ⟨by rfl, ?hy3x15⟩) hHeld ?rest3x15
        case hy3x15 => (intro w' hS; obtain ⟨s1, s2, s3, s4, s5⟩ := hS; (try simp only [List.getElem_toArray, List.getElem_cons_zero, List.getElem_cons_succ]); go_simp; try with_reducible rfl)
        try simp only [List.getElem_toArray, List.getElem_cons_zero, List.getElem_cons_succ, Act.put, List.setIfInBounds_toArray, List.set_cons_zero, List.set_cons_succ]
        refine wpAnyH_done (by kernel_rfl) ?_ _
        go_wp2_with fail
        go_ret2
        exact ⟨⟨_, rfl⟩, HN.out.trans (B1.out.mono (by omega))⟩
      · have hd : decide (R < n) = false := by simp; omega
        go_wp2_with fail
        refine wp_region_held_drew (S := fun w' => Below (w.heap.size + 1) W w') (by kernel_rfl) (HX.out.2.2.drew) (fun hHeld => ?_)
        refine' wpAnyH_take (i := 0) (v := _) rfl (by kernel_rfl) (by kernel_rfl) (by kernel_rfl) (fun _ _ _ h => h) (Or.inl ⟨by rfl, ?hy4x0⟩) hHeld ?rest4x0
        case hy4x0 => (intro w' hS; obtain s1 := hS; (try simp only [List.getElem_toArray, List.getElem_cons_zero, List.getElem_cons_succ]); go_simp; try with_reducible rfl)
        try simp only [List.getElem_toArray, List.getElem_cons_zero, List.getElem_cons_succ, Act.put, List.setIfInBounds_toArray, List.set_cons_zero, List.set_cons_succ]
        refine' wpAnyH_take (i := 1) (v := _) rfl (by kernel_rfl) (by kernel_rfl) (by kernel_rfl) (fun _ _ _ h => h) (Or.inl ⟨by rfl, ?hy4x1⟩) hHeld ?rest4x1
        case hy4x1 => (intro w' hS; obtain s1 := hS; (try simp only [List.getElem_toArray, List.getElem_cons_zero, List.getElem_cons_succ]); go_simp; try with_reducible rfl)
        try simp only [List.getElem_toArray, List.getElem_cons_zero, List.getElem_cons_succ, Act.put, List.setIfInBounds_toArray, List.set_cons_zero, List.set_cons_succ]
        refine' wpAnyH_take (i := 2) (v := _) rfl (by kernel_rfl) (by kernel_rfl) (by kernel_rfl) (fun _ _ _ h => h) (Or.inl ⟨by rfl, ?hy4x2⟩) hHeld ?rest4x2
        case hy4x2 => (intro w' hS; obtain s1 := hS; (try simp only [List.getElem_toArray, List.getElem_cons_zero, List.getElem_cons_succ]); go_simp; try with_reducible rfl)
        try simp only [List.getElem_toArray, List.getElem_cons_zero, List.getElem_cons_succ, Act.put, List.setIfInBounds_toArray, List.set_cons_zero, List.set_cons_succ]
        refine' wpAnyH_take (i := 3) (v := _) rfl (by kernel_rfl) (by kernel_rfl) (by kernel_rfl) (fun _ _ _ h => h) (Or.inl ⟨by rfl, ?hy4x3⟩) hHeld ?rest4x3
        case hy4x3 => (intro w' hS; obtain s1 := hS; (try simp only [List.getElem_toArray, List.getElem_cons_zero, List.getElem_cons_succ]); go_simp; try with_reducible rfl)
        try simp only [List.getElem_toArray, List.getElem_cons_zero, List.getElem_cons_succ, Act.put, List.setIfInBounds_toArray, List.set_cons_zero, List.set_cons_succ]
        refine' wpAnyH_take (i := 4) (v := _) rfl (by kernel_rfl) (by kernel_rfl) (by kernel_rfl) (fun _ _ _ h => h) (Or.inl ⟨by rfl, ?hy4x4⟩) hHeld ?rest4x4
        case hy4x4 => (intro w' hS; obtain s1 := hS; (try simp only [List.getElem_toArray, List.getElem_cons_zero, List.getElem_cons_succ]); go_simp; try with_reducible rfl)
        try simp only [List.getElem_toArray, List.getElem_cons_zero, List.getElem_cons_succ, Act.put, List.setIfInBounds_toArray, List.set_cons_zero, List.set_cons_succ]
        refine wpAnyH_take (i := 5) rfl (by kernel_rfl) (by kernel_rfl) (by kernel_rfl) (fun _ _ _ h => h) (Or.inr ⟨by rfl, rfl⟩) hHeld ?_
        simp only [List.getElem_toArray, List.getElem_cons_zero, List.getElem_cons_succ, Act.put, List.setIfInBounds_toArray, List.set_cons_zero, List.set_cons_succ]
        refine wpAnyH_take (i := 6) rfl (by kernel_rfl) (by kernel_rfl) (by kernel_rfl) (fun _ _ _ h => h) (Or.inr ⟨by rfl, rfl⟩) hHeld ?_
        simp only [List.getElem_toArray, List.getElem_cons_zero, List.getElem_cons_succ, Act.put, List.setIfInBounds_toArray, List.set_cons_zero, List.set_cons_succ]
        refine wpAnyH_take (i := 7) rfl (by kernel_rfl) (by kernel_rfl) (by kernel_rfl) (fun _ _ _ h => h) (Or.inr ⟨by rfl, rfl⟩) hHeld ?_
        simp only [List.getElem_toArray, List.getElem_cons_zero, List.getElem_cons_succ, Act.put, List.setIfInBounds_toArray, List.set_cons_zero, List.set_cons_succ]
        refine wpAnyH_take (i := 8) rfl (by kernel_rfl) (by kernel_rfl) (by kernel_rfl) (fun _ _ _ h => h) (Or.inr ⟨by rfl, rfl⟩) hHeld ?_
        simp only [List.getElem_toArray, List.getElem_cons_zero, List.getElem_cons_succ, Act.put, List.setIfInBounds_toArray, List.set_cons_zero, List.set_cons_succ]
        refine wpAnyH_take (i := 9) rfl (by kernel_rfl) (by kernel_rfl) (by kernel_rfl) (fun _ _ _ h => h) (Or.inr ⟨by rfl, rfl⟩) hHeld ?_
        simp only [List.getElem_toArray, List.getElem_cons_zero, List.getElem_cons_succ, Act.put, List.setIfInBounds_toArray, List.set_cons_zero, List.set_cons_succ]
        refine wpAnyH_take (i := 10) rfl (by kernel_rfl) (by kernel_rfl) (by kernel_rfl) (fun _ _ _ h => h) (Or.inr ⟨by rfl, rfl⟩) hHeld ?_
        simp only [List.getElem_toArray, List.getElem_cons_zero, List.getElem_cons_succ, Act.put, List.setIfInBounds_toArray, List.set_cons_zero, List.set_cons_succ]
        refine wpAnyH_take (i := 11) rfl (by kernel_rfl) (by kernel_rfl) (by kernel_rfl) (fun _ _ _ h => h) (Or.inr ⟨by rfl, rfl⟩) hHeld ?_
        simp only [List.getElem_toArray, List.getElem_cons_zero, List.getElem_cons_succ, Act.put, List.setIfInBounds_toArray, List.set_cons_zero, List.set_cons_succ]
        refine wpAnyH_take (i := 12) rfl (by kernel_rfl) (by kernel_rfl) (by kernel_rfl) (fun _ _ _ h => h) (Or.inr ⟨by rfl, rfl⟩) hHeld ?_
        simp only [List.getElem_toArray, List.getElem_cons_zero, List.getElem_cons_succ, Act.put, List.setIfInBounds_toArray, List.set_cons_zero, List.set_cons_succ]
        refine' wpAnyH_take (i := 13) (v := _) rfl (by kernel_rfl) (by kernel_rfl) (by kernel_rfl) (fun _ _ _ h => h) (Or.inl ⟨by rfl, ?hy4x13⟩) hHeld ?rest4x13
        case hy4x13 => (intro w' hS; obtain s1 := hS; (try simp only [List.getElem_toArray, List.getElem_cons_zero, List.getElem_cons_succ]); go_simp; try with_reducible rfl)
        try simp only [List.getElem_toArray, List.getElem_cons_zero, List.getElem_cons_succ, Act.put, List.setIfInBounds_toArray, List.set_cons_zero, List.set_cons_succ]
        refine' wpAnyH_take (i := 14) (v := _) rfl (by kernel_rfl) (by kernel_rfl) (by kernel_rfl) (fun _ _ _ h => h) (Or.inl ⟨by rfl, ?hy4x14⟩) hHeld ?rest4x14
        case hy4x14 => (intro w' hS; obtain s1 := hS; (try simp only [List.getElem_toArray, List.getElem_cons_zero, List.getElem_cons_succ]); go_simp; try with_reducible rfl)
        try simp only [List.getElem_toArray, List.getElem_cons_zero, List.getElem_cons_succ, Act.put, List.setIfInBounds_toArray, List.set_cons_zero, List.set_cons_succ]
        refine' wpAnyH_take (i := 15) (v := _) rfl (by kernel_rfl) (by kernel_rfl) (by kernel_rfl) (fun _ _ _ h => h) (Or.inl ⟨by rfl, ?hy4x15⟩) hHeld ?rest4x15
        case hy4x15 => (intro w' hS; obtain s1 := hS; (try simp only [List.getElem_toArray, List.getElem_cons_zero, List.getElem_cons_succ]); go_simp; try with_reducible rfl)
        try simp only [List.getElem_toArray, List.getElem_cons_zero, List.getElem_cons_succ, Act.put, List.setIfInBounds_toArray, List.set_cons_zero, List.set_cons_succ]
        refine wpAnyH_done (by kernel_rfl) ?_ _
        go_wp2_with fail
        go_ret2
        exact ⟨⟨_, rfl⟩, HN.out.trans (Below.mono (by assumption) (by omega))⟩
end Go.Proofs.Ytnckmaieghlpmaa
