/-
  The walk of frag.clash.
-/
import Derived.Test.YtnckmaieghlpmaaZ1
namespace Go.Proofs.Ytnckmaieghlpmaa
open Go.RowKit
set_option linter.unusedVariables false
set_option linter.unusedSimpArgs false
attribute [local go_sem ↓] fold_ld90 fold_st90 Go.wp_at_zero Go.wp_at_succ
attribute [local go_sem] ld90_at st90_at

/-- may two parts not be of one packet? -/
def clashB (p q : PartD) : Bool := (decide (p.pos < q.fin) && decide (q.pos < p.fin)) || (!p.more && !q.more) || (!p.more && decide (p.fin < q.fin)) || (!q.more && decide (q.fin < p.fin))
def Fits (p : PartD) : Prop := -9223372036854775808 ≤ p.fin ∧ p.fin ≤ 9223372036854775807

/-- both parts in their blocks -/
def TwoPt (W w' : World) (g : Nat) (p q : PartD) (v u : Value) : Prop :=
  has w' g 0 39 = true ∧ rd w' g 0 39 = partA p v ∧ has w' (g + 1) 0 39 = true ∧ rd w' (g + 1) 0 39 = partA q u ∧
  w'.cell? ⟨g, 36, none⟩ = some (.int .i64 p.pos) ∧ w'.cell? ⟨g, 37, none⟩ = some (.bool p.more) ∧ w'.cell? ⟨g + 1, 36, none⟩ = some (.int .i64 q.pos) ∧ w'.cell? ⟨g + 1, 37, none⟩ = some (.bool q.more) ∧
  Below (g + 2) W w'
theorem twoPt (w w' : World) (p q : PartD) (v u : Value) (hp : p.nm.ok) (hq : q.nm.ok) (hb : Below (w.heap.size + 2) ((w.alloc (.cells (partA p v) 90)).alloc (.cells (partA q u) 90)) w') :
    TwoPt ((w.alloc (.cells (partA p v) 90)).alloc (.cells (partA q u) 90)) w' w.heap.size p q v u := by
  have s2 : ((w.alloc (.cells (partA p v) 90)).alloc (.cells (partA q u) 90)).heap.size = w.heap.size + 2 := by simp
  have hb' : Below ((w.alloc (.cells (partA p v) 90)).alloc (.cells (partA q u) 90)).heap.size ((w.alloc (.cells (partA p v) 90)).alloc (.cells (partA q u) 90)) w' := by rw [s2]; exact hb
  have h1 : PtAt ((w.alloc (.cells (partA p v) 90)).alloc (.cells (partA q u) 90)) w.heap.size 0 p v := (ptAt_new w p v 90).alloc _
  have h2 : PtAt ((w.alloc (.cells (partA p v) 90)).alloc (.cells (partA q u) 90)) (w.heap.size + 1) 0 q u := by
    have := ptAt_new (w.alloc (.cells (partA p v) 90)) q u 90
    rwa [size_alloc] at this
  have h1' := h1.below hb'
  have h2' := h2.below hb'
  have c1 := h1'.cells hp
  have c2 := h2'.cells hq
  simp only [Nat.zero_add] at c1 c2
  exact ⟨h1'.has hp, h1'.rd hp, h2'.has hq, h2'.rd hq, c1.1, c1.2.1, c2.1, c2.2.1, hb⟩

set_option maxRecDepth 100000 in
set_option maxHeartbeats 4000000 in
theorem clash_meet (w : World) (p q : PartD) (v u : Value) (hp : p.nm.ok) (hq : q.nm.ok) (hv : Bs w v p.bs) (hu : Bs w u q.bs) (fp : Fits p) (fq : Fits q) (h1 : p.pos < q.fin) (h2 : q.pos < p.fin) :
    Calls Try.prog 74 #[.agg (partA p v), .agg (partA q u)] w fun e w' => e = .returned (.bool true) ∧ Below w.heap.size w w' := by
  obtain ⟨W, hW⟩ : ∃ W, W = (w.alloc (.cells (partA p v) 90)).alloc (.cells (partA q u) 90) := ⟨_, rfl⟩
  have HT : Hid (∀ w', Below (w.heap.size + 2) W w' → TwoPt W w' w.heap.size p q v u) := Lib.hid (fun w' hb => by rw [hW] at hb ⊢; exact twoPt w w' p q v u hp hq hb)
  have HV : Hid (Bs W v p.bs) := Lib.hid (by rw [hW]; exact (hv.alloc _).alloc _)
  have HU : Hid (Bs W u q.bs) := Lib.hid (by rw [hW]; exact (hu.alloc _).alloc _)
  have HN : Hid (Below w.heap.size w W) := Lib.hid (by rw [hW]; exact ((Below.refl _ _).alloc (Nat.le_refl _) _).alloc (by simp) _)
  have hsz : W.heap.size = w.heap.size + 2 := by rw [hW]; simp
  have HSZ := Lib.hid hsz
  have HP := Lib.hid hp
  have HQ := Lib.hid hq
  have HFP := Lib.hid fp
  have HFQ := Lib.hid fq
  clear hp hq hv hu fp fq hsz
  go_enter Try.func74, Try.ntmps74
  go_wp2_with fail
  rw [← hW]
  have HW := Lib.hid hW
  clear hW
  refine wp_region_held_drew (S := fun w' => TwoPt W w' w.heap.size p q v u) (by kernel_rfl) (HT.out _ (Below.refl _ _).drew) (fun hHeld => ?_)
  refine' wpAnyH_take (i := 0) (v := _) rfl (by kernel_rfl) (by kernel_rfl) (by kernel_rfl) (fun _ _ _ h => h) (Or.inl ⟨by rfl, ?hy1x0⟩) hHeld ?rest1x0
  case hy1x0 => (intro w' hS; obtain ⟨s1, s2, s3, s4, s5, s6, s7, s8, s9⟩ := hS; (try simp only [List.getElem_toArray, List.getElem_cons_zero, List.getElem_cons_succ]); go_simp; try with_reducible rfl)
  try simp only [List.getElem_toArray, List.getElem_cons_zero, List.getElem_cons_succ, Act.put, List.setIfInBounds_toArray, List.set_cons_zero, List.set_cons_succ]
  refine' wpAnyH_take (i := 1) (v := _) rfl (by kernel_rfl) (by kernel_rfl) (by kernel_rfl) (fun _ _ _ h => h) (Or.inl ⟨by rfl, ?hy1x1⟩) hHeld ?rest1x1
  case hy1x1 => (intro w' hS; obtain ⟨s1, s2, s3, s4, s5, s6, s7, s8, s9⟩ := hS; (try simp only [List.getElem_toArray, List.getElem_cons_zero, List.getElem_cons_succ]); go_simp; try with_reducible rfl)
  try simp only [List.getElem_toArray, List.getElem_cons_zero, List.getElem_cons_succ, Act.put, List.setIfInBounds_toArray, List.set_cons_zero, List.set_cons_succ]
  refine' wpAnyH_take (i := 2) (v := _) rfl (by kernel_rfl) (by kernel_rfl) (by kernel_rfl) (fun _ _ _ h => h) (Or.inl ⟨by rfl, ?hy1x2⟩) hHeld ?rest1x2
  case hy1x2 => (intro w' hS; obtain ⟨s1, s2, s3, s4, s5, s6, s7, s8, s9⟩ := hS; (try simp only [List.getElem_toArray, List.getElem_cons_zero, List.getElem_cons_succ]); go_simp; try with_reducible rfl)
  try simp only [List.getElem_toArray, List.getElem_cons_zero, List.getElem_cons_succ, Act.put, List.setIfInBounds_toArray, List.set_cons_zero, List.set_cons_succ]
  refine wpAnyH_ready (rs := [3]) (by kernel_rfl) (by simp) ?_
  refine AllReadyH.cons rfl (fun K hK => ?_) AllReadyH.nil
  obtain ⟨s1, s2, s3, s4, s5, s6, s7, s8, s9⟩ := hHeld
  go_simp
  refine (end_any _ q u HQ.out (HU.out.below (by rw [HSZ.out]; exact s9)) HFQ.out.1 HFQ.out.2).mono ?_
  rintro e z1 ⟨rfl, hb⟩
  have B1 : Hid (Below (w.heap.size + 2) W z1) := Lib.hid (s9.trans (hb.mono (by have := s9.size; have := HSZ.out; omega)))
  clear s1 s2 s3 s4 s5 s6 s7 s8 s9 hb
  go_wp2_with fail
  refine hK.out _ _ (HT.out _ B1.out) (fun hHeld => ?_)
  clear hK K
  try simp only [List.getElem_toArray, List.getElem_cons_zero, List.getElem_cons_succ, Act.put, List.setIfInBounds_toArray, List.set_cons_zero, List.set_cons_succ]
  refine' wpAnyH_take (i := 4) (v := _) rfl (by kernel_rfl) (by kernel_rfl) (by kernel_rfl) (fun _ _ _ h => h) (Or.inl ⟨by rfl, ?hy1x4⟩) hHeld ?rest1x4
  case hy1x4 => (intro w' hS; obtain ⟨s1, s2, s3, s4, s5, s6, s7, s8, s9⟩ := hS; (try simp only [List.getElem_toArray, List.getElem_cons_zero, List.getElem_cons_succ]); go_simp; try with_reducible rfl)
  try simp only [List.getElem_toArray, List.getElem_cons_zero, List.getElem_cons_succ, Act.put, List.setIfInBounds_toArray, List.set_cons_zero, List.set_cons_succ]
  refine' wpAnyH_take (i := 5) (v := _) rfl (by kernel_rfl) (by kernel_rfl) (by kernel_rfl) (fun _ _ _ h => h) (Or.inl ⟨by rfl, ?hy1x5⟩) hHeld ?rest1x5
  case hy1x5 => (intro w' hS; obtain ⟨s1, s2, s3, s4, s5, s6, s7, s8, s9⟩ := hS; (try simp only [List.getElem_toArray, List.getElem_cons_zero, List.getElem_cons_succ]); go_simp; try with_reducible rfl)
  try simp only [List.getElem_toArray, List.getElem_cons_zero, List.getElem_cons_succ, Act.put, List.setIfInBounds_toArray, List.set_cons_zero, List.set_cons_succ]
  refine' wpAnyH_take (i := 6) (v := _) rfl (by kernel_rfl) (by kernel_rfl) (by kernel_rfl) (fun _ _ _ h => h) (Or.inl ⟨by rfl, ?hy1x6⟩) hHeld ?rest1x6
  case hy1x6 => (intro w' hS; obtain ⟨s1, s2, s3, s4, s5, s6, s7, s8, s9⟩ := hS; (try simp only [List.getElem_toArray, List.getElem_cons_zero, List.getElem_cons_succ]); go_simp; try with_reducible rfl)
  try simp only [List.getElem_toArray, List.getElem_cons_zero, List.getElem_cons_succ, Act.put, List.setIfInBounds_toArray, List.set_cons_zero, List.set_cons_succ]
  refine' wpAnyH_take (i := 7) (v := _) rfl (by kernel_rfl) (by kernel_rfl) (by kernel_rfl) (fun _ _ _ h => h) (Or.inl ⟨by rfl, ?hy1x7⟩) hHeld ?rest1x7
  case hy1x7 => (intro w' hS; obtain ⟨s1, s2, s3, s4, s5, s6, s7, s8, s9⟩ := hS; (try simp only [List.getElem_toArray, List.getElem_cons_zero, List.getElem_cons_succ]); go_simp; try with_reducible rfl)
  try simp only [List.getElem_toArray, List.getElem_cons_zero, List.getElem_cons_succ, Act.put, List.setIfInBounds_toArray, List.set_cons_zero, List.set_cons_succ]
  refine' wpAnyH_take (i := 8) (v := _) rfl (by kernel_rfl) (by kernel_rfl) (by kernel_rfl) (fun _ _ _ h => h) (Or.inl ⟨by rfl, ?hy1x8⟩) hHeld ?rest1x8
  case hy1x8 => (intro w' hS; obtain ⟨s1, s2, s3, s4, s5, s6, s7, s8, s9⟩ := hS; (try simp only [List.getElem_toArray, List.getElem_cons_zero, List.getElem_cons_succ]); go_simp; try with_reducible rfl)
  try simp only [List.getElem_toArray, List.getElem_cons_zero, List.getElem_cons_succ, Act.put, List.setIfInBounds_toArray, List.set_cons_zero, List.set_cons_succ]
  refine wpAnyH_ready (rs := [9]) (by kernel_rfl) (by simp) ?_
  refine AllReadyH.cons rfl (fun K hK => ?_) AllReadyH.nil
  obtain ⟨s1, s2, s3, s4, s5, s6, s7, s8, s9⟩ := hHeld
  go_simp
  refine (end_any _ p v HP.out (HV.out.below (by rw [HSZ.out]; exact s9)) HFP.out.1 HFP.out.2).mono ?_
  rintro e z2 ⟨rfl, hb⟩
  have B2 : Hid (Below (w.heap.size + 2) W z2) := Lib.hid (s9.trans (hb.mono (by have := s9.size; have := HSZ.out; omega)))
  clear s1 s2 s3 s4 s5 s6 s7 s8 s9 hb
  go_wp2_with fail
  refine hK.out _ _ (HT.out _ B2.out) (fun hHeld => ?_)
  clear hK K
  try simp only [List.getElem_toArray, List.getElem_cons_zero, List.getElem_cons_succ, Act.put, List.setIfInBounds_toArray, List.set_cons_zero, List.set_cons_succ]
  refine' wpAnyH_take (i := 10) (v := _) rfl (by kernel_rfl) (by kernel_rfl) (by kernel_rfl) (fun _ _ _ h => h) (Or.inl ⟨by rfl, ?hy1x10⟩) hHeld ?rest1x10
  case hy1x10 => (intro w' hS; obtain ⟨s1, s2, s3, s4, s5, s6, s7, s8, s9⟩ := hS; (try simp only [List.getElem_toArray, List.getElem_cons_zero, List.getElem_cons_succ]); go_simp; try with_reducible rfl)
  try simp only [List.getElem_toArray, List.getElem_cons_zero, List.getElem_cons_succ, Act.put, List.setIfInBounds_toArray, List.set_cons_zero, List.set_cons_succ]
  refine' wpAnyH_take (i := 11) (v := _) rfl (by kernel_rfl) (by kernel_rfl) (by kernel_rfl) (fun _ _ _ h => h) (Or.inl ⟨by rfl, ?hy1x11⟩) hHeld ?rest1x11
  case hy1x11 => (intro w' hS; obtain ⟨s1, s2, s3, s4, s5, s6, s7, s8, s9⟩ := hS; (try simp only [List.getElem_toArray, List.getElem_cons_zero, List.getElem_cons_succ]); go_simp; try with_reducible rfl)
  try simp only [List.getElem_toArray, List.getElem_cons_zero, List.getElem_cons_succ, Act.put, List.setIfInBounds_toArray, List.set_cons_zero, List.set_cons_succ]
  refine' wpAnyH_take (i := 12) (v := _) rfl (by kernel_rfl) (by kernel_rfl) (by kernel_rfl) (fun _ _ _ h => h) (Or.inl ⟨by rfl, ?hy1x12⟩) hHeld ?rest1x12
  case hy1x12 => (intro w' hS; obtain ⟨s1, s2, s3, s4, s5, s6, s7, s8, s9⟩ := hS; (try simp only [List.getElem_toArray, List.getElem_cons_zero, List.getElem_cons_succ]); go_simp; try with_reducible rfl)
  try simp only [List.getElem_toArray, List.getElem_cons_zero, List.getElem_cons_succ, Act.put, List.setIfInBounds_toArray, List.set_cons_zero, List.set_cons_succ]
  refine wpAnyH_done (by kernel_rfl) ?_ _
  obtain ⟨s1, s2, s3, s4, s5, s6, s7, s8, s9⟩ := hHeld
  go_wp2_with fail
  go_ret
  exact ⟨rfl, HN.out.trans (B2.out.mono (by omega))⟩

set_option maxRecDepth 100000 in
set_option maxHeartbeats 4000000 in
theorem clash_aff (w : World) (p q : PartD) (v u : Value) (hp : p.nm.ok) (hq : q.nm.ok) (hv : Bs w v p.bs) (hu : Bs w u q.bs) (fp : Fits p) (fq : Fits q) (h1 : ¬ p.pos < q.fin) (m1 : p.more = false) (m2 : q.more = false) :
    Calls Try.prog 74 #[.agg (partA p v), .agg (partA q u)] w fun e w' => e = .returned (.bool true) ∧ Below w.heap.size w w' := by
  obtain ⟨W, hW⟩ : ∃ W, W = (w.alloc (.cells (partA p v) 90)).alloc (.cells (partA q u) 90) := ⟨_, rfl⟩
  have HT : Hid (∀ w', Below (w.heap.size + 2) W w' → TwoPt W w' w.heap.size p q v u) := Lib.hid (fun w' hb => by rw [hW] at hb ⊢; exact twoPt w w' p q v u hp hq hb)
  have HV : Hid (Bs W v p.bs) := Lib.hid (by rw [hW]; exact (hv.alloc _).alloc _)
  have HU : Hid (Bs W u q.bs) := Lib.hid (by rw [hW]; exact (hu.alloc _).alloc _)
  have HN : Hid (Below w.heap.size w W) := Lib.hid (by rw [hW]; exact ((Below.refl _ _).alloc (Nat.le_refl _) _).alloc (by simp) _)
  have hsz : W.heap.size = w.heap.size + 2 := by rw [hW]; simp
  have HSZ := Lib.hid hsz
  have HP := Lib.hid hp
  have HQ := Lib.hid hq
  have HFP := Lib.hid fp
  have HFQ := Lib.hid fq
  have d1 : decide (p.pos < q.fin) = false := by simp; omega
  clear hp hq hv hu fp fq hsz
  go_enter Try.func74, Try.ntmps74
  go_wp2_with fail
  rw [← hW]
  have HW := Lib.hid hW
  clear hW
  refine wp_region_held_drew (S := fun w' => TwoPt W w' w.heap.size p q v u) (by kernel_rfl) (HT.out _ (Below.refl _ _).drew) (fun hHeld => ?_)
  refine' wpAnyH_take (i := 0) (v := _) rfl (by kernel_rfl) (by kernel_rfl) (by kernel_rfl) (fun _ _ _ h => h) (Or.inl ⟨by rfl, ?hy2x0⟩) hHeld ?rest2x0
  case hy2x0 => (intro w' hS; obtain ⟨s1, s2, s3, s4, s5, s6, s7, s8, s9⟩ := hS; (try simp only [List.getElem_toArray, List.getElem_cons_zero, List.getElem_cons_succ]); go_simp; try with_reducible rfl)
  try simp only [List.getElem_toArray, List.getElem_cons_zero, List.getElem_cons_succ, Act.put, List.setIfInBounds_toArray, List.set_cons_zero, List.set_cons_succ]
  refine' wpAnyH_take (i := 1) (v := _) rfl (by kernel_rfl) (by kernel_rfl) (by kernel_rfl) (fun _ _ _ h => h) (Or.inl ⟨by rfl, ?hy2x1⟩) hHeld ?rest2x1
  case hy2x1 => (intro w' hS; obtain ⟨s1, s2, s3, s4, s5, s6, s7, s8, s9⟩ := hS; (try simp only [List.getElem_toArray, List.getElem_cons_zero, List.getElem_cons_succ]); go_simp; try with_reducible rfl)
  try simp only [List.getElem_toArray, List.getElem_cons_zero, List.getElem_cons_succ, Act.put, List.setIfInBounds_toArray, List.set_cons_zero, List.set_cons_succ]
  refine' wpAnyH_take (i := 2) (v := _) rfl (by kernel_rfl) (by kernel_rfl) (by kernel_rfl) (fun _ _ _ h => h) (Or.inl ⟨by rfl, ?hy2x2⟩) hHeld ?rest2x2
  case hy2x2 => (intro w' hS; obtain ⟨s1, s2, s3, s4, s5, s6, s7, s8, s9⟩ := hS; (try simp only [List.getElem_toArray, List.getElem_cons_zero, List.getElem_cons_succ]); go_simp; try with_reducible rfl)
  try simp only [List.getElem_toArray, List.getElem_cons_zero, List.getElem_cons_succ, Act.put, List.setIfInBounds_toArray, List.set_cons_zero, List.set_cons_succ]
  refine wpAnyH_ready (rs := [3]) (by kernel_rfl) (by simp) ?_
  refine AllReadyH.cons rfl (fun K hK => ?_) AllReadyH.nil
  obtain ⟨s1, s2, s3, s4, s5, s6, s7, s8, s9⟩ := hHeld
  go_simp
  refine (end_any _ q u HQ.out (HU.out.below (by rw [HSZ.out]; exact s9)) HFQ.out.1 HFQ.out.2).mono ?_
  rintro e z1 ⟨rfl, hb⟩
  have B1 : Hid (Below (w.heap.size + 2) W z1) := Lib.hid (s9.trans (hb.mono (by have := s9.size; have := HSZ.out; omega)))
  clear s1 s2 s3 s4 s5 s6 s7 s8 s9 hb
  go_wp2_with fail
  refine hK.out _ _ (HT.out _ B1.out) (fun hHeld => ?_)
  clear hK K
  try simp only [List.getElem_toArray, List.getElem_cons_zero, List.getElem_cons_succ, Act.put, List.setIfInBounds_toArray, List.set_cons_zero, List.set_cons_succ]
  refine' wpAnyH_take (i := 4) (v := _) rfl (by kernel_rfl) (by kernel_rfl) (by kernel_rfl) (fun _ _ _ h => h) (Or.inl ⟨by rfl, ?hy2x4⟩) hHeld ?rest2x4
  case hy2x4 => (intro w' hS; obtain ⟨s1, s2, s3, s4, s5, s6, s7, s8, s9⟩ := hS; (try simp only [List.getElem_toArray, List.getElem_cons_zero, List.getElem_cons_succ]); go_simp; try with_reducible rfl)
  try simp only [List.getElem_toArray, List.getElem_cons_zero, List.getElem_cons_succ, Act.put, List.setIfInBounds_toArray, List.set_cons_zero, List.set_cons_succ]
  refine' wpAnyH_take (i := 5) (v := _) rfl (by kernel_rfl) (by kernel_rfl) (by kernel_rfl) (fun _ _ _ h => h) (Or.inl ⟨by rfl, ?hy2x5⟩) hHeld ?rest2x5
  case hy2x5 => (intro w' hS; obtain ⟨s1, s2, s3, s4, s5, s6, s7, s8, s9⟩ := hS; (try simp only [List.getElem_toArray, List.getElem_cons_zero, List.getElem_cons_succ]); go_simp; try with_reducible rfl)
  try simp only [List.getElem_toArray, List.getElem_cons_zero, List.getElem_cons_succ, Act.put, List.setIfInBounds_toArray, List.set_cons_zero, List.set_cons_succ]
  refine wpAnyH_take (i := 6) rfl (by kernel_rfl) (by kernel_rfl) (by kernel_rfl) (fun _ _ _ h => h) (Or.inr ⟨by rfl, rfl⟩) hHeld ?_
  simp only [List.getElem_toArray, List.getElem_cons_zero, List.getElem_cons_succ, Act.put, List.setIfInBounds_toArray, List.set_cons_zero, List.set_cons_succ]
  refine wpAnyH_take (i := 7) rfl (by kernel_rfl) (by kernel_rfl) (by kernel_rfl) (fun _ _ _ h => h) (Or.inr ⟨by rfl, rfl⟩) hHeld ?_
  simp only [List.getElem_toArray, List.getElem_cons_zero, List.getElem_cons_succ, Act.put, List.setIfInBounds_toArray, List.set_cons_zero, List.set_cons_succ]
  refine wpAnyH_take (i := 8) rfl (by kernel_rfl) (by kernel_rfl) (by kernel_rfl) (fun _ _ _ h => h) (Or.inr ⟨by rfl, rfl⟩) hHeld ?_
  simp only [List.getElem_toArray, List.getElem_cons_zero, List.getElem_cons_succ, Act.put, List.setIfInBounds_toArray, List.set_cons_zero, List.set_cons_succ]
  refine wpAnyH_take (i := 9) rfl (by kernel_rfl) (by kernel_rfl) (by kernel_rfl) (fun _ _ _ h => h) (Or.inr ⟨by rfl, rfl⟩) hHeld ?_
  simp only [List.getElem_toArray, List.getElem_cons_zero, List.getElem_cons_succ, Act.put, List.setIfInBounds_toArray, List.set_cons_zero, List.set_cons_succ]
  refine wpAnyH_take (i := 10) rfl (by kernel_rfl) (by kernel_rfl) (by kernel_rfl) (fun _ _ _ h => h) (Or.inr ⟨by rfl, rfl⟩) hHeld ?_
  simp only [List.getElem_toArray, List.getElem_cons_zero, List.getElem_cons_succ, Act.put, List.setIfInBounds_toArray, List.set_cons_zero, List.set_cons_succ]
  refine' wpAnyH_take (i := 11) (v := _) rfl (by kernel_rfl) (by kernel_rfl) (by kernel_rfl) (fun _ _ _ h => h) (Or.inl ⟨by rfl, ?hy2x11⟩) hHeld ?rest2x11
  case hy2x11 => (intro w' hS; obtain ⟨s1, s2, s3, s4, s5, s6, s7, s8, s9⟩ := hS; (try simp only [List.getElem_toArray, List.getElem_cons_zero, List.getElem_cons_succ]); go_simp; try with_reducible rfl)
  try simp only [List.getElem_toArray, List.getElem_cons_zero, List.getElem_cons_succ, Act.put, List.setIfInBounds_toArray, List.set_cons_zero, List.set_cons_succ]
  refine' wpAnyH_take (i := 12) (v := _) rfl (by kernel_rfl) (by kernel_rfl) (by kernel_rfl) (fun _ _ _ h => h) (Or.inl ⟨by rfl, ?hy2x12⟩) hHeld ?rest2x12
  case hy2x12 => (intro w' hS; obtain ⟨s1, s2, s3, s4, s5, s6, s7, s8, s9⟩ := hS; (try simp only [List.getElem_toArray, List.getElem_cons_zero, List.getElem_cons_succ]); go_simp; try with_reducible rfl)
  try simp only [List.getElem_toArray, List.getElem_cons_zero, List.getElem_cons_succ, Act.put, List.setIfInBounds_toArray, List.set_cons_zero, List.set_cons_succ]
  refine wpAnyH_done (by kernel_rfl) ?_ _
  obtain ⟨s1, s2, s3, s4, s5, s6, s7, s8, s9⟩ := hHeld
  go_wp2_with fail
  go_ret
  exact ⟨rfl, HN.out.trans (B1.out.mono (by omega))⟩

set_option maxRecDepth 100000 in
set_option maxHeartbeats 4000000 in
theorem clash_bff (w : World) (p q : PartD) (v u : Value) (hp : p.nm.ok) (hq : q.nm.ok) (hv : Bs w v p.bs) (hu : Bs w u q.bs) (fp : Fits p) (fq : Fits q) (h1 : p.pos < q.fin) (h2 : ¬ q.pos < p.fin) (m1 : p.more = false) (m2 : q.more = false) :
    Calls Try.prog 74 #[.agg (partA p v), .agg (partA q u)] w fun e w' => e = .returned (.bool true) ∧ Below w.heap.size w w' := by
  obtain ⟨W, hW⟩ : ∃ W, W = (w.alloc (.cells (partA p v) 90)).alloc (.cells (partA q u) 90) := ⟨_, rfl⟩
  have HT : Hid (∀ w', Below (w.heap.size + 2) W w' → TwoPt W w' w.heap.size p q v u) := Lib.hid (fun w' hb => by rw [hW] at hb ⊢; exact twoPt w w' p q v u hp hq hb)
  have HV : Hid (Bs W v p.bs) := Lib.hid (by rw [hW]; exact (hv.alloc _).alloc _)
  have HU : Hid (Bs W u q.bs) := Lib.hid (by rw [hW]; exact (hu.alloc _).alloc _)
  have HN : Hid (Below w.heap.size w W) := Lib.hid (by rw [hW]; exact ((Below.refl _ _).alloc (Nat.le_refl _) _).alloc (by simp) _)
  have hsz : W.heap.size = w.heap.size + 2 := by rw [hW]; simp
  have HSZ := Lib.hid hsz
  have HP := Lib.hid hp
  have HQ := Lib.hid hq
  have HFP := Lib.hid fp
  have HFQ := Lib.hid fq
  have d2 : decide (q.pos < p.fin) = false := by simp; omega
  clear hp hq hv hu fp fq hsz
  go_enter Try.func74, Try.ntmps74
  go_wp2_with fail
  rw [← hW]
  have HW := Lib.hid hW
  clear hW
  refine wp_region_held_drew (S := fun w' => TwoPt W w' w.heap.size p q v u) (by kernel_rfl) (HT.out _ (Below.refl _ _).drew) (fun hHeld => ?_)
  refine' wpAnyH_take (i := 0) (v := _) rfl (by kernel_rfl) (by kernel_rfl) (by kernel_rfl) (fun _ _ _ h => h) (Or.inl ⟨by rfl, ?hy3x0⟩) hHeld ?rest3x0
  case hy3x0 => (intro w' hS; obtain ⟨s1, s2, s3, s4, s5, s6, s7, s8, s9⟩ := hS; (try simp only [List.getElem_toArray, List.getElem_cons_zero, List.getElem_cons_succ]); go_simp; try with_reducible rfl)
  try simp only [List.getElem_toArray, List.getElem_cons_zero, List.getElem_cons_succ, Act.put, List.setIfInBounds_toArray, List.set_cons_zero, List.set_cons_succ]
  refine' wpAnyH_take (i := 1) (v := _) rfl (by kernel_rfl) (by kernel_rfl) (by kernel_rfl) (fun _ _ _ h => h) (Or.inl ⟨by rfl, ?hy3x1⟩) hHeld ?rest3x1
  case hy3x1 => (intro w' hS; obtain ⟨s1, s2, s3, s4, s5, s6, s7, s8, s9⟩ := hS; (try simp only [List.getElem_toArray, List.getElem_cons_zero, List.getElem_cons_succ]); go_simp; try with_reducible rfl)
  try simp only [List.getElem_toArray, List.getElem_cons_zero, List.getElem_cons_succ, Act.put, List.setIfInBounds_toArray, List.set_cons_zero, List.set_cons_succ]
  refine' wpAnyH_take (i := 2) (v := _) rfl (by kernel_rfl) (by kernel_rfl) (by kernel_rfl) (fun _ _ _ h => h) (Or.inl ⟨by rfl, ?hy3x2⟩) hHeld ?rest3x2
  case hy3x2 => (intro w' hS; obtain ⟨s1, s2, s3, s4, s5, s6, s7, s8, s9⟩ := hS; (try simp only [List.getElem_toArray, List.getElem_cons_zero, List.getElem_cons_succ]); go_simp; try with_reducible rfl)
  try simp only [List.getElem_toArray, List.getElem_cons_zero, List.getElem_cons_succ, Act.put, List.setIfInBounds_toArray, List.set_cons_zero, List.set_cons_succ]
  refine wpAnyH_ready (rs := [3]) (by kernel_rfl) (by simp) ?_
  refine AllReadyH.cons rfl (fun K hK => ?_) AllReadyH.nil
  obtain ⟨s1, s2, s3, s4, s5, s6, s7, s8, s9⟩ := hHeld
  go_simp
  refine (end_any _ q u HQ.out (HU.out.below (by rw [HSZ.out]; exact s9)) HFQ.out.1 HFQ.out.2).mono ?_
  rintro e z1 ⟨rfl, hb⟩
  have B1 : Hid (Below (w.heap.size + 2) W z1) := Lib.hid (s9.trans (hb.mono (by have := s9.size; have := HSZ.out; omega)))
  clear s1 s2 s3 s4 s5 s6 s7 s8 s9 hb
  go_wp2_with fail
  refine hK.out _ _ (HT.out _ B1.out) (fun hHeld => ?_)
  clear hK K
  try simp only [List.getElem_toArray, List.getElem_cons_zero, List.getElem_cons_succ, Act.put, List.setIfInBounds_toArray, List.set_cons_zero, List.set_cons_succ]
  refine' wpAnyH_take (i := 4) (v := _) rfl (by kernel_rfl) (by kernel_rfl) (by kernel_rfl) (fun _ _ _ h => h) (Or.inl ⟨by rfl, ?hy3x4⟩) hHeld ?rest3x4
  case hy3x4 => (intro w' hS; obtain ⟨s1, s2, s3, s4, s5, s6, s7, s8, s9⟩ := hS; (try simp only [List.getElem_toArray, List.getElem_cons_zero, List.getElem_cons_succ]); go_simp; try with_reducible rfl)
  try simp only [List.getElem_toArray, List.getElem_cons_zero, List.getElem_cons_succ, Act.put, List.setIfInBounds_toArray, List.set_cons_zero, List.set_cons_succ]
  refine' wpAnyH_take (i := 5) (v := _) rfl (by kernel_rfl) (by kernel_rfl) (by kernel_rfl) (fun _ _ _ h => h) (Or.inl ⟨by rfl, ?hy3x5⟩) hHeld ?rest3x5
  case hy3x5 => (intro w' hS; obtain ⟨s1, s2, s3, s4, s5, s6, s7, s8, s9⟩ := hS; (try simp only [List.getElem_toArray, List.getElem_cons_zero, List.getElem_cons_succ]); go_simp; try with_reducible rfl)
  try simp only [List.getElem_toArray, List.getElem_cons_zero, List.getElem_cons_succ, Act.put, List.setIfInBounds_toArray, List.set_cons_zero, List.set_cons_succ]
  refine' wpAnyH_take (i := 6) (v := _) rfl (by kernel_rfl) (by kernel_rfl) (by kernel_rfl) (fun _ _ _ h => h) (Or.inl ⟨by rfl, ?hy3x6⟩) hHeld ?rest3x6
  case hy3x6 => (intro w' hS; obtain ⟨s1, s2, s3, s4, s5, s6, s7, s8, s9⟩ := hS; (try simp only [List.getElem_toArray, List.getElem_cons_zero, List.getElem_cons_succ]); go_simp; try with_reducible rfl)
  try simp only [List.getElem_toArray, List.getElem_cons_zero, List.getElem_cons_succ, Act.put, List.setIfInBounds_toArray, List.set_cons_zero, List.set_cons_succ]
  refine' wpAnyH_take (i := 7) (v := _) rfl (by kernel_rfl) (by kernel_rfl) (by kernel_rfl) (fun _ _ _ h => h) (Or.inl ⟨by rfl, ?hy3x7⟩) hHeld ?rest3x7
  case hy3x7 => (intro w' hS; obtain ⟨s1, s2, s3, s4, s5, s6, s7, s8, s9⟩ := hS; (try simp only [List.getElem_toArray, List.getElem_cons_zero, List.getElem_cons_succ]); go_simp; try with_reducible rfl)
  try simp only [List.getElem_toArray, List.getElem_cons_zero, List.getElem_cons_succ, Act.put, List.setIfInBounds_toArray, List.set_cons_zero, List.set_cons_succ]
  refine' wpAnyH_take (i := 8) (v := _) rfl (by kernel_rfl) (by kernel_rfl) (by kernel_rfl) (fun _ _ _ h => h) (Or.inl ⟨by rfl, ?hy3x8⟩) hHeld ?rest3x8
  case hy3x8 => (intro w' hS; obtain ⟨s1, s2, s3, s4, s5, s6, s7, s8, s9⟩ := hS; (try simp only [List.getElem_toArray, List.getElem_cons_zero, List.getElem_cons_succ]); go_simp; try with_reducible rfl)
  try simp only [List.getElem_toArray, List.getElem_cons_zero, List.getElem_cons_succ, Act.put, List.setIfInBounds_toArray, List.set_cons_zero, List.set_cons_succ]
  refine wpAnyH_ready (rs := [9]) (by kernel_rfl) (by simp) ?_
  refine AllReadyH.cons rfl (fun K hK => ?_) AllReadyH.nil
  obtain ⟨s1, s2, s3, s4, s5, s6, s7, s8, s9⟩ := hHeld
  go_simp
  refine (end_any _ p v HP.out (HV.out.below (by rw [HSZ.out]; exact s9)) HFP.out.1 HFP.out.2).mono ?_
  rintro e z2 ⟨rfl, hb⟩
  have B2 : Hid (Below (w.heap.size + 2) W z2) := Lib.hid (s9.trans (hb.mono (by have := s9.size; have := HSZ.out; omega)))
  clear s1 s2 s3 s4 s5 s6 s7 s8 s9 hb
  go_wp2_with fail
  refine hK.out _ _ (HT.out _ B2.out) (fun hHeld => ?_)
  clear hK K
  try simp only [List.getElem_toArray, List.getElem_cons_zero, List.getElem_cons_succ, Act.put, List.setIfInBounds_toArray, List.set_cons_zero, List.set_cons_succ]
  refine' wpAnyH_take (i := 10) (v := _) rfl (by kernel_rfl) (by kernel_rfl) (by kernel_rfl) (fun _ _ _ h => h) (Or.inl ⟨by rfl, ?hy3x10⟩) hHeld ?rest3x10
  case hy3x10 => (intro w' hS; obtain ⟨s1, s2, s3, s4, s5, s6, s7, s8, s9⟩ := hS; (try simp only [List.getElem_toArray, List.getElem_cons_zero, List.getElem_cons_succ]); go_simp; try with_reducible rfl)
  try simp only [List.getElem_toArray, List.getElem_cons_zero, List.getElem_cons_succ, Act.put, List.setIfInBounds_toArray, List.set_cons_zero, List.set_cons_succ]
  refine' wpAnyH_take (i := 11) (v := _) rfl (by kernel_rfl) (by kernel_rfl) (by kernel_rfl) (fun _ _ _ h => h) (Or.inl ⟨by rfl, ?hy3x11⟩) hHeld ?rest3x11
  case hy3x11 => (intro w' hS; obtain ⟨s1, s2, s3, s4, s5, s6, s7, s8, s9⟩ := hS; (try simp only [List.getElem_toArray, List.getElem_cons_zero, List.getElem_cons_succ]); go_simp; try with_reducible rfl)
  try simp only [List.getElem_toArray, List.getElem_cons_zero, List.getElem_cons_succ, Act.put, List.setIfInBounds_toArray, List.set_cons_zero, List.set_cons_succ]
  refine' wpAnyH_take (i := 12) (v := _) rfl (by kernel_rfl) (by kernel_rfl) (by kernel_rfl) (fun _ _ _ h => h) (Or.inl ⟨by rfl, ?hy3x12⟩) hHeld ?rest3x12
  case hy3x12 => (intro w' hS; obtain ⟨s1, s2, s3, s4, s5, s6, s7, s8, s9⟩ := hS; (try simp only [List.getElem_toArray, List.getElem_cons_zero, List.getElem_cons_succ]); go_simp; try with_reducible rfl)
  try simp only [List.getElem_toArray, List.getElem_cons_zero, List.getElem_cons_succ, Act.put, List.setIfInBounds_toArray, List.set_cons_zero, List.set_cons_succ]
  refine wpAnyH_done (by kernel_rfl) ?_ _
  obtain ⟨s1, s2, s3, s4, s5, s6, s7, s8, s9⟩ := hHeld
  go_wp2_with fail
  go_ret
  exact ⟨rfl, HN.out.trans (B2.out.mono (by omega))⟩

end Go.Proofs.Ytnckmaieghlpmaa
