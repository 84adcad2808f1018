/-
  The walk of frag.clash: more of its cases.
  frag.clash in one contract.
-/
import Derived.Test.YtnckmaieghlpmaaPclash
import Derived.Test.YtnckmaieghlpmaaPclash2
import Derived.Test.YtnckmaieghlpmaaPclash3
namespace Go.Proofs.Ytnckmaieghlpmaa
open Go.RowKit
set_option linter.unusedVariables false
set_option linter.unusedSimpArgs false
attribute [local go_sem ↓] fold_ld90 fold_st90 Go.wp_at_zero Go.wp_at_succ
attribute [local go_sem] ld90_at st90_at

set_option maxRecDepth 100000 in
set_option maxHeartbeats 4000000 in
theorem clash_atf1 (w : World) (p q : PartD) (v u : Value) (hp : p.nm.ok) (hq : q.nm.ok) (hv : Bs w v p.bs) (hu : Bs w u q.bs) (fp : Fits p) (fq : Fits q) (h1 : ¬ p.pos < q.fin) (m1 : p.more = true) (m2 : q.more = false) (h3 : q.fin < p.fin) :
    Calls Try.prog 74 #[.agg (partA p v), .agg (partA q u)] w fun e w' => e = .returned (.bool true) ∧ Below w.heap.size w w' := by
  obtain ⟨W, hW⟩ : ∃ W, W = (w.alloc (.cells (partA p v) 90)).alloc (.cells (partA q u) 90) := ⟨_, rfl⟩
  have HT : Hid (∀ w', Below (w.heap.size + 2) W w' → TwoPt W w' w.heap.size p q v u) := Lib.hid (fun w' hb => by rw [hW] at hb ⊢; exact twoPt w w' p q v u hp hq hb)
  have HV : Hid (Bs W v p.bs) := Lib.hid (by rw [hW]; exact (hv.alloc _).alloc _)
  have HU : Hid (Bs W u q.bs) := Lib.hid (by rw [hW]; exact (hu.alloc _).alloc _)
  have HN : Hid (Below w.heap.size w W) := Lib.hid (by rw [hW]; exact ((Below.refl _ _).alloc (Nat.le_refl _) _).alloc (by simp) _)
  have hsz : W.heap.size = w.heap.size + 2 := by rw [hW]; simp
  have HSZ := Lib.hid hsz
  have HP := Lib.hid hp
  have HQ := Lib.hid hq
  have HFP := Lib.hid fp
  have HFQ := Lib.hid fq
  have d1 : decide (p.pos < q.fin) = false := by simp; omega
  clear hp hq hv hu fp fq hsz
  go_enter Try.func74, Try.ntmps74
  go_wp2_with fail
  rw [← hW]
  have HW := Lib.hid hW
  clear hW
  refine wp_region_held_drew (S := fun w' => TwoPt W w' w.heap.size p q v u) (by kernel_rfl) (HT.out _ (Below.refl _ _).drew) (fun hHeld => ?_)
  refine' wpAnyH_take (i := 0) (v := _) rfl (by kernel_rfl) (by kernel_rfl) (by kernel_rfl) (fun _ _ _ h => h) (Or.inl ⟨by rfl, ?hy12x0⟩) hHeld ?rest12x0
  case hy12x0 => (intro w' hS; obtain ⟨s1, s2, s3, s4, s5, s6, s7, s8, s9⟩ := hS; (try simp only [List.getElem_toArray, List.getElem_cons_zero, List.getElem_cons_succ]); go_simp; try with_reducible rfl)
  try simp only [List.getElem_toArray, List.getElem_cons_zero, List.getElem_cons_succ, Act.put, List.setIfInBounds_toArray, List.set_cons_zero, List.set_cons_succ]
  refine' wpAnyH_take (i := 1) (v := _) rfl (by kernel_rfl) (by kernel_rfl) (by kernel_rfl) (fun _ _ _ h => h) (Or.inl ⟨by rfl, ?hy12x1⟩) hHeld ?rest12x1
  case hy12x1 => (intro w' hS; obtain ⟨s1, s2, s3, s4, s5, s6, s7, s8, s9⟩ := hS; (try simp only [List.getElem_toArray, List.getElem_cons_zero, List.getElem_cons_succ]); go_simp; try with_reducible rfl)
  try simp only [List.getElem_toArray, List.getElem_cons_zero, List.getElem_cons_succ, Act.put, List.setIfInBounds_toArray, List.set_cons_zero, List.set_cons_succ]
  refine' wpAnyH_take (i := 2) (v := _) rfl (by kernel_rfl) (by kernel_rfl) (by kernel_rfl) (fun _ _ _ h => h) (Or.inl ⟨by rfl, ?hy12x2⟩) hHeld ?rest12x2
  case hy12x2 => (intro w' hS; obtain ⟨s1, s2, s3, s4, s5, s6, s7, s8, s9⟩ := hS; (try simp only [List.getElem_toArray, List.getElem_cons_zero, List.getElem_cons_succ]); go_simp; try with_reducible rfl)
  try simp only [List.getElem_toArray, List.getElem_cons_zero, List.getElem_cons_succ, Act.put, List.setIfInBounds_toArray, List.set_cons_zero, List.set_cons_succ]
  refine wpAnyH_ready (rs := [3]) (by kernel_rfl) (by simp) ?_
  refine AllReadyH.cons rfl (fun K hK => ?_) AllReadyH.nil
  obtain ⟨s1, s2, s3, s4, s5, s6, s7, s8, s9⟩ := hHeld
  go_simp
  refine (end_any _ q u HQ.out (HU.out.below (by rw [HSZ.out]; exact s9)) HFQ.out.1 HFQ.out.2).mono ?_
  rintro e z1 ⟨rfl, hb⟩
  have B1 : Hid (Below (w.heap.size + 2) W z1) := Lib.hid (s9.trans (hb.mono (by have := s9.size; have := HSZ.out; omega)))
  clear s1 s2 s3 s4 s5 s6 s7 s8 s9 hb
  go_wp2_with fail
  refine hK.out _ _ (HT.out _ B1.out) (fun hHeld => ?_)
  clear hK K
  try simp only [List.getElem_toArray, List.getElem_cons_zero, List.getElem_cons_succ, Act.put, List.setIfInBounds_toArray, List.set_cons_zero, List.set_cons_succ]
  refine' wpAnyH_take (i := 4) (v := _) rfl (by kernel_rfl) (by kernel_rfl) (by kernel_rfl) (fun _ _ _ h => h) (Or.inl ⟨by rfl, ?hy12x4⟩) hHeld ?rest12x4
  case hy12x4 => (intro w' hS; obtain ⟨s1, s2, s3, s4, s5, s6, s7, s8, s9⟩ := hS; (try simp only [List.getElem_toArray, List.getElem_cons_zero, List.getElem_cons_succ]); go_simp; try with_reducible rfl)
  try simp only [List.getElem_toArray, List.getElem_cons_zero, List.getElem_cons_succ, Act.put, List.setIfInBounds_toArray, List.set_cons_zero, List.set_cons_succ]
  refine' wpAnyH_take (i := 5) (v := _) rfl (by kernel_rfl) (by kernel_rfl) (by kernel_rfl) (fun _ _ _ h => h) (Or.inl ⟨by rfl, ?hy12x5⟩) hHeld ?rest12x5
  case hy12x5 => (intro w' hS; obtain ⟨s1, s2, s3, s4, s5, s6, s7, s8, s9⟩ := hS; (try simp only [List.getElem_toArray, List.getElem_cons_zero, List.getElem_cons_succ]); go_simp; try with_reducible rfl)
  try simp only [List.getElem_toArray, List.getElem_cons_zero, List.getElem_cons_succ, Act.put, List.setIfInBounds_toArray, List.set_cons_zero, List.set_cons_succ]
  refine wpAnyH_take (i := 6) rfl (by kernel_rfl) (by kernel_rfl) (by kernel_rfl) (fun _ _ _ h => h) (Or.inr ⟨by rfl, rfl⟩) hHeld ?_
  simp only [List.getElem_toArray, List.getElem_cons_zero, List.getElem_cons_succ, Act.put, List.setIfInBounds_toArray, List.set_cons_zero, List.set_cons_succ]
  refine wpAnyH_take (i := 7) rfl (by kernel_rfl) (by kernel_rfl) (by kernel_rfl) (fun _ _ _ h => h) (Or.inr ⟨by rfl, rfl⟩) hHeld ?_
  simp only [List.getElem_toArray, List.getElem_cons_zero, List.getElem_cons_succ, Act.put, List.setIfInBounds_toArray, List.set_cons_zero, List.set_cons_succ]
  refine wpAnyH_take (i := 8) rfl (by kernel_rfl) (by kernel_rfl) (by kernel_rfl) (fun _ _ _ h => h) (Or.inr ⟨by rfl, rfl⟩) hHeld ?_
  simp only [List.getElem_toArray, List.getElem_cons_zero, List.getElem_cons_succ, Act.put, List.setIfInBounds_toArray, List.set_cons_zero, List.set_cons_succ]
  refine wpAnyH_take (i := 9) rfl (by kernel_rfl) (by kernel_rfl) (by kernel_rfl) (fun _ _ _ h => h) (Or.inr ⟨by rfl, rfl⟩) hHeld ?_
  simp only [List.getElem_toArray, List.getElem_cons_zero, List.getElem_cons_succ, Act.put, List.setIfInBounds_toArray, List.set_cons_zero, List.set_cons_succ]
  refine wpAnyH_take (i := 10) rfl (by kernel_rfl) (by kernel_rfl) (by kernel_rfl) (fun _ _ _ h => h) (Or.inr ⟨by rfl, rfl⟩) hHeld ?_
  simp only [List.getElem_toArray, List.getElem_cons_zero, List.getElem_cons_succ, Act.put, List.setIfInBounds_toArray, List.set_cons_zero, List.set_cons_succ]
  refine' wpAnyH_take (i := 11) (v := _) rfl (by kernel_rfl) (by kernel_rfl) (by kernel_rfl) (fun _ _ _ h => h) (Or.inl ⟨by rfl, ?hy12x11⟩) hHeld ?rest12x11
  case hy12x11 => (intro w' hS; obtain ⟨s1, s2, s3, s4, s5, s6, s7, s8, s9⟩ := hS; (try simp only [List.getElem_toArray, List.getElem_cons_zero, List.getElem_cons_succ]); go_simp; try with_reducible rfl)
  try simp only [List.getElem_toArray, List.getElem_cons_zero, List.getElem_cons_succ, Act.put, List.setIfInBounds_toArray, List.set_cons_zero, List.set_cons_succ]
  refine' wpAnyH_take (i := 12) (v := _) rfl (by kernel_rfl) (by kernel_rfl) (by kernel_rfl) (fun _ _ _ h => h) (Or.inl ⟨by rfl, ?hy12x12⟩) hHeld ?rest12x12
  case hy12x12 => (intro w' hS; obtain ⟨s1, s2, s3, s4, s5, s6, s7, s8, s9⟩ := hS; (try simp only [List.getElem_toArray, List.getElem_cons_zero, List.getElem_cons_succ]); go_simp; try with_reducible rfl)
  try simp only [List.getElem_toArray, List.getElem_cons_zero, List.getElem_cons_succ, Act.put, List.setIfInBounds_toArray, List.set_cons_zero, List.set_cons_succ]
  refine wpAnyH_done (by kernel_rfl) ?_ _
  obtain ⟨s1, s2, s3, s4, s5, s6, s7, s8, s9⟩ := hHeld
  go_wp2_with fail
  clear s1 s2 s3 s4 s5 s6 s7 s8 s9
  refine wp_region_held_drew (S := fun w' => TwoPt W w' w.heap.size p q v u) (by kernel_rfl) (HT.out _ B1.out.drew) (fun hHeld => ?_)
  refine' wpAnyH_take (i := 0) (v := _) rfl (by kernel_rfl) (by kernel_rfl) (by kernel_rfl) (fun _ _ _ h => h) (Or.inl ⟨by rfl, ?hy13x0⟩) hHeld ?rest13x0
  case hy13x0 => (intro w' hS; obtain ⟨s1, s2, s3, s4, s5, s6, s7, s8, s9⟩ := hS; (try simp only [List.getElem_toArray, List.getElem_cons_zero, List.getElem_cons_succ]); go_simp; try with_reducible rfl)
  try simp only [List.getElem_toArray, List.getElem_cons_zero, List.getElem_cons_succ, Act.put, List.setIfInBounds_toArray, List.set_cons_zero, List.set_cons_succ]
  refine' wpAnyH_take (i := 1) (v := _) rfl (by kernel_rfl) (by kernel_rfl) (by kernel_rfl) (fun _ _ _ h => h) (Or.inl ⟨by rfl, ?hy13x1⟩) hHeld ?rest13x1
  case hy13x1 => (intro w' hS; obtain ⟨s1, s2, s3, s4, s5, s6, s7, s8, s9⟩ := hS; (try simp only [List.getElem_toArray, List.getElem_cons_zero, List.getElem_cons_succ]); go_simp; try with_reducible rfl)
  try simp only [List.getElem_toArray, List.getElem_cons_zero, List.getElem_cons_succ, Act.put, List.setIfInBounds_toArray, List.set_cons_zero, List.set_cons_succ]
  refine' wpAnyH_take (i := 2) (v := _) rfl (by kernel_rfl) (by kernel_rfl) (by kernel_rfl) (fun _ _ _ h => h) (Or.inl ⟨by rfl, ?hy13x2⟩) hHeld ?rest13x2
  case hy13x2 => (intro w' hS; obtain ⟨s1, s2, s3, s4, s5, s6, s7, s8, s9⟩ := hS; (try simp only [List.getElem_toArray, List.getElem_cons_zero, List.getElem_cons_succ]); go_simp; try with_reducible rfl)
  try simp only [List.getElem_toArray, List.getElem_cons_zero, List.getElem_cons_succ, Act.put, List.setIfInBounds_toArray, List.set_cons_zero, List.set_cons_succ]
  refine' wpAnyH_take (i := 3) (v := _) rfl (by kernel_rfl) (by kernel_rfl) (by kernel_rfl) (fun _ _ _ h => h) (Or.inl ⟨by rfl, ?hy13x3⟩) hHeld ?rest13x3
  case hy13x3 => (intro w' hS; obtain ⟨s1, s2, s3, s4, s5, s6, s7, s8, s9⟩ := hS; (try simp only [List.getElem_toArray, List.getElem_cons_zero, List.getElem_cons_succ]); go_simp; try with_reducible rfl)
  try simp only [List.getElem_toArray, List.getElem_cons_zero, List.getElem_cons_succ, Act.put, List.setIfInBounds_toArray, List.set_cons_zero, List.set_cons_succ]
  refine wpAnyH_take (i := 4) rfl (by kernel_rfl) (by kernel_rfl) (by kernel_rfl) (fun _ _ _ h => h) (Or.inr ⟨by rfl, rfl⟩) hHeld ?_
  simp only [List.getElem_toArray, List.getElem_cons_zero, List.getElem_cons_succ, Act.put, List.setIfInBounds_toArray, List.set_cons_zero, List.set_cons_succ]
  refine wpAnyH_take (i := 6) rfl (by kernel_rfl) (by kernel_rfl) (by kernel_rfl) (fun _ _ _ h => h) (Or.inr ⟨by rfl, rfl⟩) hHeld ?_
  simp only [List.getElem_toArray, List.getElem_cons_zero, List.getElem_cons_succ, Act.put, List.setIfInBounds_toArray, List.set_cons_zero, List.set_cons_succ]
  refine wpAnyH_take (i := 5) rfl (by kernel_rfl) (by kernel_rfl) (by kernel_rfl) (fun _ _ _ h => h) (Or.inr ⟨by rfl, rfl⟩) hHeld ?_
  simp only [List.getElem_toArray, List.getElem_cons_zero, List.getElem_cons_succ, Act.put, List.setIfInBounds_toArray, List.set_cons_zero, List.set_cons_succ]
  refine wpAnyH_take (i := 7) rfl (by kernel_rfl) (by kernel_rfl) (by kernel_rfl) (fun _ _ _ h => h) (Or.inr ⟨by rfl, rfl⟩) hHeld ?_
  simp only [List.getElem_toArray, List.getElem_cons_zero, List.getElem_cons_succ, Act.put, List.setIfInBounds_toArray, List.set_cons_zero, List.set_cons_succ]
  refine wpAnyH_take (i := 8) rfl (by kernel_rfl) (by kernel_rfl) (by kernel_rfl) (fun _ _ _ h => h) (Or.inr ⟨by rfl, rfl⟩) hHeld ?_
  simp only [List.getElem_toArray, List.getElem_cons_zero, List.getElem_cons_succ, Act.put, List.setIfInBounds_toArray, List.set_cons_zero, List.set_cons_succ]
  refine' wpAnyH_take (i := 9) (v := _) rfl (by kernel_rfl) (by kernel_rfl) (by kernel_rfl) (fun _ _ _ h => h) (Or.inl ⟨by rfl, ?hy13x9⟩) hHeld ?rest13x9
  case hy13x9 => (intro w' hS; obtain ⟨s1, s2, s3, s4, s5, s6, s7, s8, s9⟩ := hS; (try simp only [List.getElem_toArray, List.getElem_cons_zero, List.getElem_cons_succ]); go_simp; try with_reducible rfl)
  try simp only [List.getElem_toArray, List.getElem_cons_zero, List.getElem_cons_succ, Act.put, List.setIfInBounds_toArray, List.set_cons_zero, List.set_cons_succ]
  refine' wpAnyH_take (i := 10) (v := _) rfl (by kernel_rfl) (by kernel_rfl) (by kernel_rfl) (fun _ _ _ h => h) (Or.inl ⟨by rfl, ?hy13x10⟩) hHeld ?rest13x10
  case hy13x10 => (intro w' hS; obtain ⟨s1, s2, s3, s4, s5, s6, s7, s8, s9⟩ := hS; (try simp only [List.getElem_toArray, List.getElem_cons_zero, List.getElem_cons_succ]); go_simp; try with_reducible rfl)
  try simp only [List.getElem_toArray, List.getElem_cons_zero, List.getElem_cons_succ, Act.put, List.setIfInBounds_toArray, List.set_cons_zero, List.set_cons_succ]
  refine' wpAnyH_take (i := 11) (v := _) rfl (by kernel_rfl) (by kernel_rfl) (by kernel_rfl) (fun _ _ _ h => h) (Or.inl ⟨by rfl, ?hy13x11⟩) hHeld ?rest13x11
  case hy13x11 => (intro w' hS; obtain ⟨s1, s2, s3, s4, s5, s6, s7, s8, s9⟩ := hS; (try simp only [List.getElem_toArray, List.getElem_cons_zero, List.getElem_cons_succ]); go_simp; try with_reducible rfl)
  try simp only [List.getElem_toArray, List.getElem_cons_zero, List.getElem_cons_succ, Act.put, List.setIfInBounds_toArray, List.set_cons_zero, List.set_cons_succ]
  refine' wpAnyH_take (i := 12) (v := _) rfl (by kernel_rfl) (by kernel_rfl) (by kernel_rfl) (fun _ _ _ h => h) (Or.inl ⟨by rfl, ?hy13x12⟩) hHeld ?rest13x12
  case hy13x12 => (intro w' hS; obtain ⟨s1, s2, s3, s4, s5, s6, s7, s8, s9⟩ := hS; (try simp only [List.getElem_toArray, List.getElem_cons_zero, List.getElem_cons_succ]); go_simp; try with_reducible rfl)
  try simp only [List.getElem_toArray, List.getElem_cons_zero, List.getElem_cons_succ, Act.put, List.setIfInBounds_toArray, List.set_cons_zero, List.set_cons_succ]
  refine' wpAnyH_take (i := 13) (v := _) rfl (by kernel_rfl) (by kernel_rfl) (by kernel_rfl) (fun _ _ _ h => h) (Or.inl ⟨by rfl, ?hy13x13⟩) hHeld ?rest13x13
  case hy13x13 => (intro w' hS; obtain ⟨s1, s2, s3, s4, s5, s6, s7, s8, s9⟩ := hS; (try simp only [List.getElem_toArray, List.getElem_cons_zero, List.getElem_cons_succ]); go_simp; try with_reducible rfl)
  try simp only [List.getElem_toArray, List.getElem_cons_zero, List.getElem_cons_succ, Act.put, List.setIfInBounds_toArray, List.set_cons_zero, List.set_cons_succ]
  refine' wpAnyH_take (i := 14) (v := _) rfl (by kernel_rfl) (by kernel_rfl) (by kernel_rfl) (fun _ _ _ h => h) (Or.inl ⟨by rfl, ?hy13x14⟩) hHeld ?rest13x14
  case hy13x14 => (intro w' hS; obtain ⟨s1, s2, s3, s4, s5, s6, s7, s8, s9⟩ := hS; (try simp only [List.getElem_toArray, List.getElem_cons_zero, List.getElem_cons_succ]); go_simp; try with_reducible rfl)
  try simp only [List.getElem_toArray, List.getElem_cons_zero, List.getElem_cons_succ, Act.put, List.setIfInBounds_toArray, List.set_cons_zero, List.set_cons_succ]
  refine' wpAnyH_take (i := 15) (v := _) rfl (by kernel_rfl) (by kernel_rfl) (by kernel_rfl) (fun _ _ _ h => h) (Or.inl ⟨by rfl, ?hy13x15⟩) hHeld ?rest13x15
  case hy13x15 => (intro w' hS; obtain ⟨s1, s2, s3, s4, s5, s6, s7, s8, s9⟩ := hS; (try simp only [List.getElem_toArray, List.getElem_cons_zero, List.getElem_cons_succ]); go_simp; try with_reducible rfl)
  try simp only [List.getElem_toArray, List.getElem_cons_zero, List.getElem_cons_succ, Act.put, List.setIfInBounds_toArray, List.set_cons_zero, List.set_cons_succ]
  refine' wpAnyH_take (i := 17) (v := _) rfl (by kernel_rfl) (by kernel_rfl) (by kernel_rfl) (fun _ _ _ h => h) (Or.inl ⟨by rfl, ?hy13x17⟩) hHeld ?rest13x17
  case hy13x17 => (intro w' hS; obtain ⟨s1, s2, s3, s4, s5, s6, s7, s8, s9⟩ := hS; (try simp only [List.getElem_toArray, List.getElem_cons_zero, List.getElem_cons_succ]); go_simp; try with_reducible rfl)
  try simp only [List.getElem_toArray, List.getElem_cons_zero, List.getElem_cons_succ, Act.put, List.setIfInBounds_toArray, List.set_cons_zero, List.set_cons_succ]
  refine wpAnyH_ready (rs := [16]) (by kernel_rfl) (by simp) ?_
  refine AllReadyH.cons rfl (fun K hK => ?_) AllReadyH.nil
  obtain ⟨s1, s2, s3, s4, s5, s6, s7, s8, s9⟩ := hHeld
  go_simp
  refine (end_any _ p v HP.out (HV.out.below (by rw [HSZ.out]; exact s9)) HFP.out.1 HFP.out.2).mono ?_
  rintro e z2 ⟨rfl, hb⟩
  have B2 : Hid (Below (w.heap.size + 2) W z2) := Lib.hid (s9.trans (hb.mono (by have := s9.size; have := HSZ.out; omega)))
  clear s1 s2 s3 s4 s5 s6 s7 s8 s9 hb
  go_wp2_with fail
  refine hK.out _ _ (HT.out _ B2.out) (fun hHeld => ?_)
  clear hK K
  try simp only [List.getElem_toArray, List.getElem_cons_zero, List.getElem_cons_succ, Act.put, List.setIfInBounds_toArray, List.set_cons_zero, List.set_cons_succ]
  refine wpAnyH_ready (rs := [18]) (by kernel_rfl) (by simp) ?_
  refine AllReadyH.cons rfl (fun K hK => ?_) AllReadyH.nil
  obtain ⟨s1, s2, s3, s4, s5, s6, s7, s8, s9⟩ := hHeld
  go_simp
  refine (end_any _ q u HQ.out (HU.out.below (by rw [HSZ.out]; exact s9)) HFQ.out.1 HFQ.out.2).mono ?_
  rintro e z3 ⟨rfl, hb⟩
  have B3 : Hid (Below (w.heap.size + 2) W z3) := Lib.hid (s9.trans (hb.mono (by have := s9.size; have := HSZ.out; omega)))
  clear s1 s2 s3 s4 s5 s6 s7 s8 s9 hb
  go_wp2_with fail
  refine hK.out _ _ (HT.out _ B3.out) (fun hHeld => ?_)
  clear hK K
  try simp only [List.getElem_toArray, List.getElem_cons_zero, List.getElem_cons_succ, Act.put, List.setIfInBounds_toArray, List.set_cons_zero, List.set_cons_succ]
  refine' wpAnyH_take (i := 19) (v := _) rfl (by kernel_rfl) (by kernel_rfl) (by kernel_rfl) (fun _ _ _ h => h) (Or.inl ⟨by rfl, ?hy13x19⟩) hHeld ?rest13x19
  case hy13x19 => (intro w' hS; obtain ⟨s1, s2, s3, s4, s5, s6, s7, s8, s9⟩ := hS; (try simp only [List.getElem_toArray, List.getElem_cons_zero, List.getElem_cons_succ]); go_simp; try with_reducible rfl)
  try simp only [List.getElem_toArray, List.getElem_cons_zero, List.getElem_cons_succ, Act.put, List.setIfInBounds_toArray, List.set_cons_zero, List.set_cons_succ]
  refine' wpAnyH_take (i := 20) (v := _) rfl (by kernel_rfl) (by kernel_rfl) (by kernel_rfl) (fun _ _ _ h => h) (Or.inl ⟨by rfl, ?hy13x20⟩) hHeld ?rest13x20
  case hy13x20 => (intro w' hS; obtain ⟨s1, s2, s3, s4, s5, s6, s7, s8, s9⟩ := hS; (try simp only [List.getElem_toArray, List.getElem_cons_zero, List.getElem_cons_succ]); go_simp; try with_reducible rfl)
  try simp only [List.getElem_toArray, List.getElem_cons_zero, List.getElem_cons_succ, Act.put, List.setIfInBounds_toArray, List.set_cons_zero, List.set_cons_succ]
  refine' wpAnyH_take (i := 21) (v := _) rfl (by kernel_rfl) (by kernel_rfl) (by kernel_rfl) (fun _ _ _ h => h) (Or.inl ⟨by rfl, ?hy13x21⟩) hHeld ?rest13x21
  case hy13x21 => (intro w' hS; obtain ⟨s1, s2, s3, s4, s5, s6, s7, s8, s9⟩ := hS; (try simp only [List.getElem_toArray, List.getElem_cons_zero, List.getElem_cons_succ]); go_simp; try with_reducible rfl)
  try simp only [List.getElem_toArray, List.getElem_cons_zero, List.getElem_cons_succ, Act.put, List.setIfInBounds_toArray, List.set_cons_zero, List.set_cons_succ]
  refine' wpAnyH_take (i := 22) (v := _) rfl (by kernel_rfl) (by kernel_rfl) (by kernel_rfl) (fun _ _ _ h => h) (Or.inl ⟨by rfl, ?hy13x22⟩) hHeld ?rest13x22
  case hy13x22 => (intro w' hS; obtain ⟨s1, s2, s3, s4, s5, s6, s7, s8, s9⟩ := hS; (try simp only [List.getElem_toArray, List.getElem_cons_zero, List.getElem_cons_succ]); go_simp; try with_reducible rfl)
  try simp only [List.getElem_toArray, List.getElem_cons_zero, List.getElem_cons_succ, Act.put, List.setIfInBounds_toArray, List.set_cons_zero, List.set_cons_succ]
  refine wpAnyH_done (by kernel_rfl) ?_ _
  go_wp2_with fail
  go_ret
  exact ⟨rfl, HN.out.trans (Below.mono hHeld.2.2.2.2.2.2.2.2 (by omega))⟩

set_option maxRecDepth 100000 in
set_option maxHeartbeats 4000000 in
theorem clash_btf1 (w : World) (p q : PartD) (v u : Value) (hp : p.nm.ok) (hq : q.nm.ok) (hv : Bs w v p.bs) (hu : Bs w u q.bs) (fp : Fits p) (fq : Fits q) (h1 : p.pos < q.fin) (h2 : ¬ q.pos < p.fin) (m1 : p.more = true) (m2 : q.more = false) (h3 : q.fin < p.fin) :
    Calls Try.prog 74 #[.agg (partA p v), .agg (partA q u)] w fun e w' => e = .returned (.bool true) ∧ Below w.heap.size w w' := by
  obtain ⟨W, hW⟩ : ∃ W, W = (w.alloc (.cells (partA p v) 90)).alloc (.cells (partA q u) 90) := ⟨_, rfl⟩
  have HT : Hid (∀ w', Below (w.heap.size + 2) W w' → TwoPt W w' w.heap.size p q v u) := Lib.hid (fun w' hb => by rw [hW] at hb ⊢; exact twoPt w w' p q v u hp hq hb)
  have HV : Hid (Bs W v p.bs) := Lib.hid (by rw [hW]; exact (hv.alloc _).alloc _)
  have HU : Hid (Bs W u q.bs) := Lib.hid (by rw [hW]; exact (hu.alloc _).alloc _)
  have HN : Hid (Below w.heap.size w W) := Lib.hid (by rw [hW]; exact ((Below.refl _ _).alloc (Nat.le_refl _) _).alloc (by simp) _)
  have hsz : W.heap.size = w.heap.size + 2 := by rw [hW]; simp
  have HSZ := Lib.hid hsz
  have HP := Lib.hid hp
  have HQ := Lib.hid hq
  have HFP := Lib.hid fp
  have HFQ := Lib.hid fq
  have d2 : decide (q.pos < p.fin) = false := by simp; omega
  clear hp hq hv hu fp fq hsz
  go_enter Try.func74, Try.ntmps74
  go_wp2_with fail
  rw [← hW]
  have HW := Lib.hid hW
  clear hW
  refine wp_region_held_drew (S := fun w' => TwoPt W w' w.heap.size p q v u) (by kernel_rfl) (HT.out _ (Below.refl _ _).drew) (fun hHeld => ?_)
  refine' wpAnyH_take (i := 0) (v := _) rfl (by kernel_rfl) (by kernel_rfl) (by kernel_rfl) (fun _ _ _ h => h) (Or.inl ⟨by rfl, ?hy14x0⟩) hHeld ?rest14x0
  case hy14x0 => (intro w' hS; obtain ⟨s1, s2, s3, s4, s5, s6, s7, s8, s9⟩ := hS; (try simp only [List.getElem_toArray, List.getElem_cons_zero, List.getElem_cons_succ]); go_simp; try with_reducible rfl)
  try simp only [List.getElem_toArray, List.getElem_cons_zero, List.getElem_cons_succ, Act.put, List.setIfInBounds_toArray, List.set_cons_zero, List.set_cons_succ]
  refine' wpAnyH_take (i := 1) (v := _) rfl (by kernel_rfl) (by kernel_rfl) (by kernel_rfl) (fun _ _ _ h => h) (Or.inl ⟨by rfl, ?hy14x1⟩) hHeld ?rest14x1
  case hy14x1 => (intro w' hS; obtain ⟨s1, s2, s3, s4, s5, s6, s7, s8, s9⟩ := hS; (try simp only [List.getElem_toArray, List.getElem_cons_zero, List.getElem_cons_succ]); go_simp; try with_reducible rfl)
  try simp only [List.getElem_toArray, List.getElem_cons_zero, List.getElem_cons_succ, Act.put, List.setIfInBounds_toArray, List.set_cons_zero, List.set_cons_succ]
  refine' wpAnyH_take (i := 2) (v := _) rfl (by kernel_rfl) (by kernel_rfl) (by kernel_rfl) (fun _ _ _ h => h) (Or.inl ⟨by rfl, ?hy14x2⟩) hHeld ?rest14x2
  case hy14x2 => (intro w' hS; obtain ⟨s1, s2, s3, s4, s5, s6, s7, s8, s9⟩ := hS; (try simp only [List.getElem_toArray, List.getElem_cons_zero, List.getElem_cons_succ]); go_simp; try with_reducible rfl)
  try simp only [List.getElem_toArray, List.getElem_cons_zero, List.getElem_cons_succ, Act.put, List.setIfInBounds_toArray, List.set_cons_zero, List.set_cons_succ]
  refine wpAnyH_ready (rs := [3]) (by kernel_rfl) (by simp) ?_
  refine AllReadyH.cons rfl (fun K hK => ?_) AllReadyH.nil
  obtain ⟨s1, s2, s3, s4, s5, s6, s7, s8, s9⟩ := hHeld
  go_simp
  refine (end_any _ q u HQ.out (HU.out.below (by rw [HSZ.out]; exact s9)) HFQ.out.1 HFQ.out.2).mono ?_
  rintro e z1 ⟨rfl, hb⟩
  have B1 : Hid (Below (w.heap.size + 2) W z1) := Lib.hid (s9.trans (hb.mono (by have := s9.size; have := HSZ.out; omega)))
  clear s1 s2 s3 s4 s5 s6 s7 s8 s9 hb
  go_wp2_with fail
  refine hK.out _ _ (HT.out _ B1.out) (fun hHeld => ?_)
  clear hK K
  try simp only [List.getElem_toArray, List.getElem_cons_zero, List.getElem_cons_succ, Act.put, List.setIfInBounds_toArray, List.set_cons_zero, List.set_cons_succ]
  refine' wpAnyH_take (i := 4) (v := _) rfl (by kernel_rfl) (by kernel_rfl) (by kernel_rfl) (fun _ _ _ h => h) (Or.inl ⟨by rfl, ?hy14x4⟩) hHeld ?rest14x4
  case hy14x4 => (intro w' hS; obtain ⟨s1, s2, s3, s4, s5, s6, s7, s8, s9⟩ := hS; (try simp only [List.getElem_toArray, List.getElem_cons_zero, List.getElem_cons_succ]); go_simp; try with_reducible rfl)
  try simp only [List.getElem_toArray, List.getElem_cons_zero, List.getElem_cons_succ, Act.put, List.setIfInBounds_toArray, List.set_cons_zero, List.set_cons_succ]
  refine' wpAnyH_take (i := 5) (v := _) rfl (by kernel_rfl) (by kernel_rfl) (by kernel_rfl) (fun _ _ _ h => h) (Or.inl ⟨by rfl, ?hy14x5⟩) hHeld ?rest14x5
  case hy14x5 => (intro w' hS; obtain ⟨s1, s2, s3, s4, s5, s6, s7, s8, s9⟩ := hS; (try simp only [List.getElem_toArray, List.getElem_cons_zero, List.getElem_cons_succ]); go_simp; try with_reducible rfl)
  try simp only [List.getElem_toArray, List.getElem_cons_zero, List.getElem_cons_succ, Act.put, List.setIfInBounds_toArray, List.set_cons_zero, List.set_cons_succ]
  refine' wpAnyH_take (i := 6) (v := _) rfl (by kernel_rfl) (by kernel_rfl) (by kernel_rfl) (fun _ _ _ h => h) (Or.inl ⟨by rfl, ?hy14x6⟩) hHeld ?rest14x6
  case hy14x6 => (intro w' hS; obtain ⟨s1, s2, s3, s4, s5, s6, s7, s8, s9⟩ := hS; (try simp only [List.getElem_toArray, List.getElem_cons_zero, List.getElem_cons_succ]); go_simp; try with_reducible rfl)
  try simp only [List.getElem_toArray, List.getElem_cons_zero, List.getElem_cons_succ, Act.put, List.setIfInBounds_toArray, List.set_cons_zero, List.set_cons_succ]
  refine' wpAnyH_take (i := 7) (v := _) rfl (by kernel_rfl) (by kernel_rfl) (by kernel_rfl) (fun _ _ _ h => h) (Or.inl ⟨by rfl, ?hy14x7⟩) hHeld ?rest14x7
  case hy14x7 => (intro w' hS; obtain ⟨s1, s2, s3, s4, s5, s6, s7, s8, s9⟩ := hS; (try simp only [List.getElem_toArray, List.getElem_cons_zero, List.getElem_cons_succ]); go_simp; try with_reducible rfl)
  try simp only [List.getElem_toArray, List.getElem_cons_zero, List.getElem_cons_succ, Act.put, List.setIfInBounds_toArray, List.set_cons_zero, List.set_cons_succ]
  refine' wpAnyH_take (i := 8) (v := _) rfl (by kernel_rfl) (by kernel_rfl) (by kernel_rfl) (fun _ _ _ h => h) (Or.inl ⟨by rfl, ?hy14x8⟩) hHeld ?rest14x8
  case hy14x8 => (intro w' hS; obtain ⟨s1, s2, s3, s4, s5, s6, s7, s8, s9⟩ := hS; (try simp only [List.getElem_toArray, List.getElem_cons_zero, List.getElem_cons_succ]); go_simp; try with_reducible rfl)
  try simp only [List.getElem_toArray, List.getElem_cons_zero, List.getElem_cons_succ, Act.put, List.setIfInBounds_toArray, List.set_cons_zero, List.set_cons_succ]
  refine wpAnyH_ready (rs := [9]) (by kernel_rfl) (by simp) ?_
  refine AllReadyH.cons rfl (fun K hK => ?_) AllReadyH.nil
  obtain ⟨s1, s2, s3, s4, s5, s6, s7, s8, s9⟩ := hHeld
  go_simp
  refine (end_any _ p v HP.out (HV.out.below (by rw [HSZ.out]; exact s9)) HFP.out.1 HFP.out.2).mono ?_
  rintro e z2 ⟨rfl, hb⟩
  have B2 : Hid (Below (w.heap.size + 2) W z2) := Lib.hid (s9.trans (hb.mono (by have := s9.size; have := HSZ.out; omega)))
  clear s1 s2 s3 s4 s5 s6 s7 s8 s9 hb
  go_wp2_with fail
  refine hK.out _ _ (HT.out _ B2.out) (fun hHeld => ?_)
  clear hK K
  try simp only [List.getElem_toArray, List.getElem_cons_zero, List.getElem_cons_succ, Act.put, List.setIfInBounds_toArray, List.set_cons_zero, List.set_cons_succ]
  refine' wpAnyH_take (i := 10) (v := _) rfl (by kernel_rfl) (by kernel_rfl) (by kernel_rfl) (fun _ _ _ h => h) (Or.inl ⟨by rfl, ?hy14x10⟩) hHeld ?rest14x10
  case hy14x10 => (intro w' hS; obtain ⟨s1, s2, s3, s4, s5, s6, s7, s8, s9⟩ := hS; (try simp only [List.getElem_toArray, List.getElem_cons_zero, List.getElem_cons_succ]); go_simp; try with_reducible rfl)
  try simp only [List.getElem_toArray, List.getElem_cons_zero, List.getElem_cons_succ, Act.put, List.setIfInBounds_toArray, List.set_cons_zero, List.set_cons_succ]
  refine' wpAnyH_take (i := 11) (v := _) rfl (by kernel_rfl) (by kernel_rfl) (by kernel_rfl) (fun _ _ _ h => h) (Or.inl ⟨by rfl, ?hy14x11⟩) hHeld ?rest14x11
  case hy14x11 => (intro w' hS; obtain ⟨s1, s2, s3, s4, s5, s6, s7, s8, s9⟩ := hS; (try simp only [List.getElem_toArray, List.getElem_cons_zero, List.getElem_cons_succ]); go_simp; try with_reducible rfl)
  try simp only [List.getElem_toArray, List.getElem_cons_zero, List.getElem_cons_succ, Act.put, List.setIfInBounds_toArray, List.set_cons_zero, List.set_cons_succ]
  refine' wpAnyH_take (i := 12) (v := _) rfl (by kernel_rfl) (by kernel_rfl) (by kernel_rfl) (fun _ _ _ h => h) (Or.inl ⟨by rfl, ?hy14x12⟩) hHeld ?rest14x12
  case hy14x12 => (intro w' hS; obtain ⟨s1, s2, s3, s4, s5, s6, s7, s8, s9⟩ := hS; (try simp only [List.getElem_toArray, List.getElem_cons_zero, List.getElem_cons_succ]); go_simp; try with_reducible rfl)
  try simp only [List.getElem_toArray, List.getElem_cons_zero, List.getElem_cons_succ, Act.put, List.setIfInBounds_toArray, List.set_cons_zero, List.set_cons_succ]
  refine wpAnyH_done (by kernel_rfl) ?_ _
  obtain ⟨s1, s2, s3, s4, s5, s6, s7, s8, s9⟩ := hHeld
  go_wp2_with fail
  clear s1 s2 s3 s4 s5 s6 s7 s8 s9
  refine wp_region_held_drew (S := fun w' => TwoPt W w' w.heap.size p q v u) (by kernel_rfl) (HT.out _ B2.out.drew) (fun hHeld => ?_)
  refine' wpAnyH_take (i := 0) (v := _) rfl (by kernel_rfl) (by kernel_rfl) (by kernel_rfl) (fun _ _ _ h => h) (Or.inl ⟨by rfl, ?hy15x0⟩) hHeld ?rest15x0
  case hy15x0 => (intro w' hS; obtain ⟨s1, s2, s3, s4, s5, s6, s7, s8, s9⟩ := hS; (try simp only [List.getElem_toArray, List.getElem_cons_zero, List.getElem_cons_succ]); go_simp; try with_reducible rfl)
  try simp only [List.getElem_toArray, List.getElem_cons_zero, List.getElem_cons_succ, Act.put, List.setIfInBounds_toArray, List.set_cons_zero, List.set_cons_succ]
  refine' wpAnyH_take (i := 1) (v := _) rfl (by kernel_rfl) (by kernel_rfl) (by kernel_rfl) (fun _ _ _ h => h) (Or.inl ⟨by rfl, ?hy15x1⟩) hHeld ?rest15x1
  case hy15x1 => (intro w' hS; obtain ⟨s1, s2, s3, s4, s5, s6, s7, s8, s9⟩ := hS; (try simp only [List.getElem_toArray, List.getElem_cons_zero, List.getElem_cons_succ]); go_simp; try with_reducible rfl)
  try simp only [List.getElem_toArray, List.getElem_cons_zero, List.getElem_cons_succ, Act.put, List.setIfInBounds_toArray, List.set_cons_zero, List.set_cons_succ]
  refine' wpAnyH_take (i := 2) (v := _) rfl (by kernel_rfl) (by kernel_rfl) (by kernel_rfl) (fun _ _ _ h => h) (Or.inl ⟨by rfl, ?hy15x2⟩) hHeld ?rest15x2
  case hy15x2 => (intro w' hS; obtain ⟨s1, s2, s3, s4, s5, s6, s7, s8, s9⟩ := hS; (try simp only [List.getElem_toArray, List.getElem_cons_zero, List.getElem_cons_succ]); go_simp; try with_reducible rfl)
  try simp only [List.getElem_toArray, List.getElem_cons_zero, List.getElem_cons_succ, Act.put, List.setIfInBounds_toArray, List.set_cons_zero, List.set_cons_succ]
  refine' wpAnyH_take (i := 3) (v := _) rfl (by kernel_rfl) (by kernel_rfl) (by kernel_rfl) (fun _ _ _ h => h) (Or.inl ⟨by rfl, ?hy15x3⟩) hHeld ?rest15x3
  case hy15x3 => (intro w' hS; obtain ⟨s1, s2, s3, s4, s5, s6, s7, s8, s9⟩ := hS; (try simp only [List.getElem_toArray, List.getElem_cons_zero, List.getElem_cons_succ]); go_simp; try with_reducible rfl)
  try simp only [List.getElem_toArray, List.getElem_cons_zero, List.getElem_cons_succ, Act.put, List.setIfInBounds_toArray, List.set_cons_zero, List.set_cons_succ]
  refine wpAnyH_take (i := 4) rfl (by kernel_rfl) (by kernel_rfl) (by kernel_rfl) (fun _ _ _ h => h) (Or.inr ⟨by rfl, rfl⟩) hHeld ?_
  simp only [List.getElem_toArray, List.getElem_cons_zero, List.getElem_cons_succ, Act.put, List.setIfInBounds_toArray, List.set_cons_zero, List.set_cons_succ]
  refine wpAnyH_take (i := 6) rfl (by kernel_rfl) (by kernel_rfl) (by kernel_rfl) (fun _ _ _ h => h) (Or.inr ⟨by rfl, rfl⟩) hHeld ?_
  simp only [List.getElem_toArray, List.getElem_cons_zero, List.getElem_cons_succ, Act.put, List.setIfInBounds_toArray, List.set_cons_zero, List.set_cons_succ]
  refine wpAnyH_take (i := 5) rfl (by kernel_rfl) (by kernel_rfl) (by kernel_rfl) (fun _ _ _ h => h) (Or.inr ⟨by rfl, rfl⟩) hHeld ?_
  simp only [List.getElem_toArray, List.getElem_cons_zero, List.getElem_cons_succ, Act.put, List.setIfInBounds_toArray, List.set_cons_zero, List.set_cons_succ]
  refine wpAnyH_take (i := 7) rfl (by kernel_rfl) (by kernel_rfl) (by kernel_rfl) (fun _ _ _ h => h) (Or.inr ⟨by rfl, rfl⟩) hHeld ?_
  simp only [List.getElem_toArray, List.getElem_cons_zero, List.getElem_cons_succ, Act.put, List.setIfInBounds_toArray, List.set_cons_zero, List.set_cons_succ]
  refine wpAnyH_take (i := 8) rfl (by kernel_rfl) (by kernel_rfl) (by kernel_rfl) (fun _ _ _ h => h) (Or.inr ⟨by rfl, rfl⟩) hHeld ?_
  simp only [List.getElem_toArray, List.getElem_cons_zero, List.getElem_cons_succ, Act.put, List.setIfInBounds_toArray, List.set_cons_zero, List.set_cons_succ]
  refine' wpAnyH_take (i := 9) (v := _) rfl (by kernel_rfl) (by kernel_rfl) (by kernel_rfl) (fun _ _ _ h => h) (Or.inl ⟨by rfl, ?hy15x9⟩) hHeld ?rest15x9
  case hy15x9 => (intro w' hS; obtain ⟨s1, s2, s3, s4, s5, s6, s7, s8, s9⟩ := hS; (try simp only [List.getElem_toArray, List.getElem_cons_zero, List.getElem_cons_succ]); go_simp; try with_reducible rfl)
  try simp only [List.getElem_toArray, List.getElem_cons_zero, List.getElem_cons_succ, Act.put, List.setIfInBounds_toArray, List.set_cons_zero, List.set_cons_succ]
  refine' wpAnyH_take (i := 10) (v := _) rfl (by kernel_rfl) (by kernel_rfl) (by kernel_rfl) (fun _ _ _ h => h) (Or.inl ⟨by rfl, ?hy15x10⟩) hHeld ?rest15x10
  case hy15x10 => (intro w' hS; obtain ⟨s1, s2, s3, s4, s5, s6, s7, s8, s9⟩ := hS; (try simp only [List.getElem_toArray, List.getElem_cons_zero, List.getElem_cons_succ]); go_simp; try with_reducible rfl)
  try simp only [List.getElem_toArray, List.getElem_cons_zero, List.getElem_cons_succ, Act.put, List.setIfInBounds_toArray, List.set_cons_zero, List.set_cons_succ]
  refine' wpAnyH_take (i := 11) (v := _) rfl (by kernel_rfl) (by kernel_rfl) (by kernel_rfl) (fun _ _ _ h => h) (Or.inl ⟨by rfl, ?hy15x11⟩) hHeld ?rest15x11
  case hy15x11 => (intro w' hS; obtain ⟨s1, s2, s3, s4, s5, s6, s7, s8, s9⟩ := hS; (try simp only [List.getElem_toArray, List.getElem_cons_zero, List.getElem_cons_succ]); go_simp; try with_reducible rfl)
  try simp only [List.getElem_toArray, List.getElem_cons_zero, List.getElem_cons_succ, Act.put, List.setIfInBounds_toArray, List.set_cons_zero, List.set_cons_succ]
  refine' wpAnyH_take (i := 12) (v := _) rfl (by kernel_rfl) (by kernel_rfl) (by kernel_rfl) (fun _ _ _ h => h) (Or.inl ⟨by rfl, ?hy15x12⟩) hHeld ?rest15x12
  case hy15x12 => (intro w' hS; obtain ⟨s1, s2, s3, s4, s5, s6, s7, s8, s9⟩ := hS; (try simp only [List.getElem_toArray, List.getElem_cons_zero, List.getElem_cons_succ]); go_simp; try with_reducible rfl)
  try simp only [List.getElem_toArray, List.getElem_cons_zero, List.getElem_cons_succ, Act.put, List.setIfInBounds_toArray, List.set_cons_zero, List.set_cons_succ]
  refine' wpAnyH_take (i := 13) (v := _) rfl (by kernel_rfl) (by kernel_rfl) (by kernel_rfl) (fun _ _ _ h => h) (Or.inl ⟨by rfl, ?hy15x13⟩) hHeld ?rest15x13
  case hy15x13 => (intro w' hS; obtain ⟨s1, s2, s3, s4, s5, s6, s7, s8, s9⟩ := hS; (try simp only [List.getElem_toArray, List.getElem_cons_zero, List.getElem_cons_succ]); go_simp; try with_reducible rfl)
  try simp only [List.getElem_toArray, List.getElem_cons_zero, List.getElem_cons_succ, Act.put, List.setIfInBounds_toArray, List.set_cons_zero, List.set_cons_succ]
  refine' wpAnyH_take (i := 14) (v := _) rfl (by kernel_rfl) (by kernel_rfl) (by kernel_rfl) (fun _ _ _ h => h) (Or.inl ⟨by rfl, ?hy15x14⟩) hHeld ?rest15x14
  case hy15x14 => (intro w' hS; obtain ⟨s1, s2, s3, s4, s5, s6, s7, s8, s9⟩ := hS; (try simp only [List.getElem_toArray, List.getElem_cons_zero, List.getElem_cons_succ]); go_simp; try with_reducible rfl)
  try simp only [List.getElem_toArray, List.getElem_cons_zero, List.getElem_cons_succ, Act.put, List.setIfInBounds_toArray, List.set_cons_zero, List.set_cons_succ]
  refine' wpAnyH_take (i := 15) (v := _) rfl (by kernel_rfl) (by kernel_rfl) (by kernel_rfl) (fun _ _ _ h => h) (Or.inl ⟨by rfl, ?hy15x15⟩) hHeld ?rest15x15
  case hy15x15 => (intro w' hS; obtain ⟨s1, s2, s3, s4, s5, s6, s7, s8, s9⟩ := hS; (try simp only [List.getElem_toArray, List.getElem_cons_zero, List.getElem_cons_succ]); go_simp; try with_reducible rfl)
  try simp only [List.getElem_toArray, List.getElem_cons_zero, List.getElem_cons_succ, Act.put, List.setIfInBounds_toArray, List.set_cons_zero, List.set_cons_succ]
  refine' wpAnyH_take (i := 17) (v := _) rfl (by kernel_rfl) (by kernel_rfl) (by kernel_rfl) (fun _ _ _ h => h) (Or.inl ⟨by rfl, ?hy15x17⟩) hHeld ?rest15x17
  case hy15x17 => (intro w' hS; obtain ⟨s1, s2, s3, s4, s5, s6, s7, s8, s9⟩ := hS; (try simp only [List.getElem_toArray, List.getElem_cons_zero, List.getElem_cons_succ]); go_simp; try with_reducible rfl)
  try simp only [List.getElem_toArray, List.getElem_cons_zero, List.getElem_cons_succ, Act.put, List.setIfInBounds_toArray, List.set_cons_zero, List.set_cons_succ]
  refine wpAnyH_ready (rs := [16]) (by kernel_rfl) (by simp) ?_
  refine AllReadyH.cons rfl (fun K hK => ?_) AllReadyH.nil
  obtain ⟨s1, s2, s3, s4, s5, s6, s7, s8, s9⟩ := hHeld
  go_simp
  refine (end_any _ p v HP.out (HV.out.below (by rw [HSZ.out]; exact s9)) HFP.out.1 HFP.out.2).mono ?_
  rintro e z3 ⟨rfl, hb⟩
  have B3 : Hid (Below (w.heap.size + 2) W z3) := Lib.hid (s9.trans (hb.mono (by have := s9.size; have := HSZ.out; omega)))
  clear s1 s2 s3 s4 s5 s6 s7 s8 s9 hb
  go_wp2_with fail
  refine hK.out _ _ (HT.out _ B3.out) (fun hHeld => ?_)
  clear hK K
  try simp only [List.getElem_toArray, List.getElem_cons_zero, List.getElem_cons_succ, Act.put, List.setIfInBounds_toArray, List.set_cons_zero, List.set_cons_succ]
  refine wpAnyH_ready (rs := [18]) (by kernel_rfl) (by simp) ?_
  refine AllReadyH.cons rfl (fun K hK => ?_) AllReadyH.nil
  obtain ⟨s1, s2, s3, s4, s5, s6, s7, s8, s9⟩ := hHeld
  go_simp
  refine (end_any _ q u HQ.out (HU.out.below (by rw [HSZ.out]; exact s9)) HFQ.out.1 HFQ.out.2).mono ?_
  rintro e z4 ⟨rfl, hb⟩
  have B4 : Hid (Below (w.heap.size + 2) W z4) := Lib.hid (s9.trans (hb.mono (by have := s9.size; have := HSZ.out; omega)))
  clear s1 s2 s3 s4 s5 s6 s7 s8 s9 hb
  go_wp2_with fail
  refine hK.out _ _ (HT.out _ B4.out) (fun hHeld => ?_)
  clear hK K
  try simp only [List.getElem_toArray, List.getElem_cons_zero, List.getElem_cons_succ, Act.put, List.setIfInBounds_toArray, List.set_cons_zero, List.set_cons_succ]
  refine' wpAnyH_take (i := 19) (v := _) rfl (by kernel_rfl) (by kernel_rfl) (by kernel_rfl) (fun _ _ _ h => h) (Or.inl ⟨by rfl, ?hy15x19⟩) hHeld ?rest15x19
  case hy15x19 => (intro w' hS; obtain ⟨s1, s2, s3, s4, s5, s6, s7, s8, s9⟩ := hS; (try simp only [List.getElem_toArray, List.getElem_cons_zero, List.getElem_cons_succ]); go_simp; try with_reducible rfl)
  try simp only [List.getElem_toArray, List.getElem_cons_zero, List.getElem_cons_succ, Act.put, List.setIfInBounds_toArray, List.set_cons_zero, List.set_cons_succ]
  refine' wpAnyH_take (i := 20) (v := _) rfl (by kernel_rfl) (by kernel_rfl) (by kernel_rfl) (fun _ _ _ h => h) (Or.inl ⟨by rfl, ?hy15x20⟩) hHeld ?rest15x20
  case hy15x20 => (intro w' hS; obtain ⟨s1, s2, s3, s4, s5, s6, s7, s8, s9⟩ := hS; (try simp only [List.getElem_toArray, List.getElem_cons_zero, List.getElem_cons_succ]); go_simp; try with_reducible rfl)
  try simp only [List.getElem_toArray, List.getElem_cons_zero, List.getElem_cons_succ, Act.put, List.setIfInBounds_toArray, List.set_cons_zero, List.set_cons_succ]
  refine' wpAnyH_take (i := 21) (v := _) rfl (by kernel_rfl) (by kernel_rfl) (by kernel_rfl) (fun _ _ _ h => h) (Or.inl ⟨by rfl, ?hy15x21⟩) hHeld ?rest15x21
  case hy15x21 => (intro w' hS; obtain ⟨s1, s2, s3, s4, s5, s6, s7, s8, s9⟩ := hS; (try simp only [List.getElem_toArray, List.getElem_cons_zero, List.getElem_cons_succ]); go_simp; try with_reducible rfl)
  try simp only [List.getElem_toArray, List.getElem_cons_zero, List.getElem_cons_succ, Act.put, List.setIfInBounds_toArray, List.set_cons_zero, List.set_cons_succ]
  refine' wpAnyH_take (i := 22) (v := _) rfl (by kernel_rfl) (by kernel_rfl) (by kernel_rfl) (fun _ _ _ h => h) (Or.inl ⟨by rfl, ?hy15x22⟩) hHeld ?rest15x22
  case hy15x22 => (intro w' hS; obtain ⟨s1, s2, s3, s4, s5, s6, s7, s8, s9⟩ := hS; (try simp only [List.getElem_toArray, List.getElem_cons_zero, List.getElem_cons_succ]); go_simp; try with_reducible rfl)
  try simp only [List.getElem_toArray, List.getElem_cons_zero, List.getElem_cons_succ, Act.put, List.setIfInBounds_toArray, List.set_cons_zero, List.set_cons_succ]
  refine wpAnyH_done (by kernel_rfl) ?_ _
  go_wp2_with fail
  go_ret
  exact ⟨rfl, HN.out.trans (Below.mono hHeld.2.2.2.2.2.2.2.2 (by omega))⟩

end Go.Proofs.Ytnckmaieghlpmaa
namespace Go.Proofs.Ytnckmaieghlpmaa
open Go.RowKit
set_option linter.unusedVariables false

def ClRet (w : World) (b : Bool) (e : Ending) (w' : World) : Prop := e = .returned (.bool b) ∧ Below w.heap.size w w'
theorem clash_any (w : World) (p q : PartD) (v u : Value) (hp : p.nm.ok) (hq : q.nm.ok) (hv : Bs w v p.bs) (hu : Bs w u q.bs) (fp : Fits p) (fq : Fits q) :
    Calls Try.prog 74 #[.agg (partA p v), .agg (partA q u)] w (ClRet w (clashB p q)) := by
  have fin : ∀ b, clashB p q = b → Calls Try.prog 74 #[.agg (partA p v), .agg (partA q u)] w (ClRet w b) → Calls Try.prog 74 #[.agg (partA p v), .agg (partA q u)] w (ClRet w (clashB p q)) := fun b h k => h ▸ k
  by_cases h1 : p.pos < q.fin
  · by_cases h2 : q.pos < p.fin
    · exact fin true (by simp [clashB, h1, h2]) (clash_meet w p q v u hp hq hv hu fp fq h1 h2)
    · rcases hm1 : p.more with _ | _
      · rcases hm2 : q.more with _ | _
        · exact fin true (by simp [clashB, h1, h2, hm1, hm2]) (clash_bff w p q v u hp hq hv hu fp fq h1 h2 hm1 hm2)
        · by_cases h3 : p.fin < q.fin
          · exact fin true (by simp [clashB, h1, h2, hm1, hm2, h3]) (clash_bft1 w p q v u hp hq hv hu fp fq h1 h2 hm1 hm2 h3)
          · exact fin false (by simp [clashB, h1, h2, hm1, hm2, h3]) (clash_bft0 w p q v u hp hq hv hu fp fq h1 h2 hm1 hm2 h3)
      · rcases hm2 : q.more with _ | _
        · by_cases h3 : q.fin < p.fin
          · exact fin true (by simp [clashB, h1, h2, hm1, hm2, h3]) (clash_btf1 w p q v u hp hq hv hu fp fq h1 h2 hm1 hm2 h3)
          · exact fin false (by simp [clashB, h1, h2, hm1, hm2, h3]) (clash_btf0 w p q v u hp hq hv hu fp fq h1 h2 hm1 hm2 h3)
        · exact fin false (by simp [clashB, h1, h2, hm1, hm2]) (clash_btt w p q v u hp hq hv hu fp fq h1 h2 hm1 hm2)
  · rcases hm1 : p.more with _ | _
    · rcases hm2 : q.more with _ | _
      · exact fin true (by simp [clashB, h1, hm1, hm2]) (clash_aff w p q v u hp hq hv hu fp fq h1 hm1 hm2)
      · by_cases h3 : p.fin < q.fin
        · exact fin true (by simp [clashB, h1, hm1, hm2, h3]) (clash_aft1 w p q v u hp hq hv hu fp fq h1 hm1 hm2 h3)
        · exact fin false (by simp [clashB, h1, hm1, hm2, h3]) (clash_aft0 w p q v u hp hq hv hu fp fq h1 hm1 hm2 h3)
    · rcases hm2 : q.more with _ | _
      · by_cases h3 : q.fin < p.fin
        · exact fin true (by simp [clashB, h1, hm1, hm2, h3]) (clash_atf1 w p q v u hp hq hv hu fp fq h1 hm1 hm2 h3)
        · exact fin false (by simp [clashB, h1, hm1, hm2, h3]) (clash_atf0 w p q v u hp hq hv hu fp fq h1 hm1 hm2 h3)
      · exact fin false (by simp [clashB, h1, hm1, hm2]) (clash_att w p q v u hp hq hv hu fp fq h1 hm1 hm2)
end Go.Proofs.Ytnckmaieghlpmaa
