/-
  The reference's clash and may.
-/
import Derived.Test.YtnckmaieghlpmaaRf1
namespace Go.Proofs.Ytnckmaieghlpmaa
open Go.RowKit
set_option linter.unusedVariables false
set_option linter.unusedSimpArgs false
attribute [local go_sem ↓] fold_ld54 fold_st54 fold_ld95 fold_st95 Go.wp_at_zero Go.wp_at_succ
attribute [local go_sem] ld54_at st54_at ld95_at st95_pt free_new1

set_option maxRecDepth 100000 in
set_option maxHeartbeats 4000000 in
theorem rclash_any (w : World) (p q : PartD) (v u : Value) (hp : p.nm.ok) (hq : q.nm.ok) (hv : Bs w v p.bs) (hu : Bs w u q.bs) (fp : Fits p) (fq : Fits q) (p0 : 0 ≤ p.pos) (q0 : 0 ≤ q.pos) (hp1 : 0 < p.bs.length) (hq1 : 0 < q.bs.length) :
    Calls Try.prog 81 #[.agg (partA p v), .agg (partA q u)] w (ClRet w (clashB p q)) := by
  have HT := Lib.hid (twoX w p q v u)
  obtain ⟨r, hr⟩ : ∃ r, r = clashB p q := ⟨_, rfl⟩
  rw [← hr]
  have HR := Lib.hid hr
  have HM : Hid (∀ w', Below w.heap.size w w' → Calls Try.prog 91 #[.agg (partA p v), .agg (partA q u)] w' (ClRet w' (decide (p.pos < q.fin ∧ q.pos < p.fin)))) := Lib.hid (fun w' h => meets_any w' p q v u hp hq (hv.below h) (hu.below h) fp fq p0 q0 hp1 hq1)
  have HP := Lib.hid hp
  have HQ := Lib.hid hq
  clear hr
  go_enter Try.func81, Try.ntmps81
  go_upto_region 1 with fail
  generalize (w.alloc (.cells (partA p v) 95)).alloc (.cells (partA q u) 95) = W at HT ⊢
  obtain ⟨hA, hB, hb, _⟩ := HT.out
  obtain ⟨g, hg⟩ : ∃ g, g = w.heap.size := ⟨_, rfl⟩
  rw [← hg] at hA hB ⊢
  obtain ⟨c1, c2, c3⟩ := hA.cells hp
  obtain ⟨c4, c5, c6⟩ := hB.cells hq
  simp only [Nat.zero_add] at c1 c2 c3 c4 c5 c6
  obtain ⟨a, c, rfl, hl1, hl2, hat⟩ := hv
  obtain ⟨a', c', rfl, hl1', hl2', hat'⟩ := hu
  unfold maxLen at hl2 hl2'
  have HA := Lib.hid hA
  have HB := Lib.hid hB
  have HBE := Lib.hid hb
  have hfp : p.pos + (p.bs.length : Int) = p.fin := rfl
  have hfq : q.pos + (q.bs.length : Int) = q.fin := rfl
  have s1 : IntKind.i64.wrap (p.pos + (p.bs.length : Int)) = p.fin := by
    have h1 := fp.1
    have h2 := fp.2
    rw [hfp, IntKind.wrap_i64]; omega
  have s2 : IntKind.i64.wrap (q.pos + (q.bs.length : Int)) = q.fin := by
    have h1 := fq.1
    have h2 := fq.2
    rw [hfq, IntKind.wrap_i64]; omega
  have hn1 : p.bs.length ≤ 9223372036854775807 := by omega
  have hn2 : q.bs.length ≤ 9223372036854775807 := by omega
  clear hA hB hb hg hat hat' fp fq hfp hfq HT hp hq p0 q0 hp1 hq1 hl2 hl2'
  go_quiet (fail)
  obtain ⟨W2, hW2, hb2⟩ : ∃ W2, W2 = W.drewN nq ∧ Below W.heap.size W W2 := ⟨_, rfl, below_drewN _ _⟩
  rw [← hW2]
  have HA2 := Lib.hid (HA.out.below hb2)
  have HB2 := Lib.hid (HB.out.below hb2)
  have HE2 := Lib.hid (HBE.out.then hb2)
  have x1 := HA2.out.has HP.out
  have x2 := HA2.out.rd HP.out
  have x3 := HB2.out.has HQ.out
  have x4 := HB2.out.rd HQ.out
  clear hW2 hb2 c1 c2 c3 c4 c5 c6 s1 s2
  go_wp2_with fail
  refine (HM.out W2 HE2.out).mono ?_
  rintro e w3 ⟨rfl, hb3⟩
  have HE3 := Lib.hid (HE2.out.then hb3)
  have c2 := ((HA2.out.below hb3).cells HP.out).2.1
  have c5 := ((HB2.out.below hb3).cells HQ.out).2.1
  simp only [Nat.zero_add] at c2 c5
  clear x1 x2 x3 x4 hb3
  by_cases hm : p.pos < q.fin ∧ q.pos < p.fin
  · have hr : r = true := by rw [HR.out]; simp [clashB, hm.1, hm.2]
    subst hr
    rw [decide_eq_true hm]
    clear hm
    go_wp2_with fail
    go_ret
    exact ⟨rfl, HE3.out⟩
  · have HM2 : Hid ((decide (p.pos < q.fin) && decide (q.pos < p.fin)) = false) := Lib.hid (by
      rw [Bool.and_eq_false_iff]
      by_cases h1 : p.pos < q.fin
      · exact .inr (decide_eq_false (fun h2 => hm ⟨h1, h2⟩))
      · exact .inl (decide_eq_false h1))
    rw [decide_eq_false hm]
    clear hm
    rcases hm1 : p.more with _ | _
    · rw [hm1] at c2
      rcases hm2 : q.more with _ | _
      · rw [hm2] at c5
        have hr : r = true := by rw [HR.out, clashB, HM2.out, hm1, hm2]; rfl
        subst hr
        clear hm1 hm2
        go_wp2_with fail
        go_ret
        exact ⟨rfl, HE3.out⟩
      · rw [hm2] at c5
        by_cases h3 : p.fin < q.fin
        · have hr : r = true := by rw [HR.out, clashB, HM2.out, hm1, hm2, decide_eq_true h3]; rfl
          subst hr
          clear hm1 hm2
          go_wp2_with fail
          go_ret
          exact ⟨rfl, HE3.out⟩
        · have hr : r = false := by rw [HR.out, clashB, HM2.out, hm1, hm2, decide_eq_false h3]; rfl
          subst hr
          clear hm1 hm2
          go_wp2_with fail
          go_ret
          exact ⟨(congrArg (fun b => Ending.returned (.bool b)) (decide_eq_false (show ¬ (p.fin < q.fin) by omega)) :), HE3.out⟩
    · rw [hm1] at c2
      rcases hm2 : q.more with _ | _
      · rw [hm2] at c5
        by_cases h3 : q.fin < p.fin
        · have hr : r = true := by rw [HR.out, clashB, HM2.out, hm1, hm2, decide_eq_true h3]; rfl
          subst hr
          clear hm1 hm2
          go_wp2_with fail
          go_ret
          exact ⟨rfl, HE3.out⟩
        · have hr : r = false := by rw [HR.out, clashB, HM2.out, hm1, hm2, decide_eq_false h3]; rfl
          subst hr
          clear hm1 hm2
          go_wp2_with fail
          go_ret
          exact ⟨(congrArg (fun b => Ending.returned (.bool b)) (decide_eq_false (show ¬ (q.fin < p.fin) by omega)) :), HE3.out⟩
      · rw [hm2] at c5
        have hr : r = false := by rw [HR.out, clashB, HM2.out, hm1, hm2]; rfl
        subst hr
        clear hm1 hm2
        go_wp2_with fail
        go_ret
        exact ⟨rfl, HE3.out⟩

set_option maxRecDepth 100000 in
set_option maxHeartbeats 4000000 in
theorem rmay_any (w : World) (F : Nat) (most : Int) (p : PartD) (v : Value) (hp : p.nm.ok) (hv : Bs w v p.bs) (hF : w.cell? ⟨F, 1, none⟩ = some (.int .i64 most)) (hm : most ≤ 9223372036854775807) :
    Calls Try.prog 79 #[.pointer (some ⟨F, 0, none⟩), .agg (partA p v)] w (ClRet w (mayB most p)) := by
  obtain ⟨a, c, rfl, hl1, hl2, hat⟩ := hv
  unfold maxLen at hl2
  obtain ⟨n, hn⟩ : ∃ n, n = p.bs.length := ⟨_, rfl⟩
  obtain ⟨r, hr⟩ : ∃ r, r = mayB most p := ⟨_, rfl⟩
  rw [← hr]
  have HR : Hid (r = (decide (0 < n) && decide (0 ≤ p.pos) && decide (p.pos % 8 = 0) && (!p.more || decide (n % 8 = 0)) && decide ((n : Int) ≤ most) && decide (p.pos ≤ most - n))) := Lib.hid (by rw [hr]; unfold mayB; rw [hn])
  rw [← hn] at hl1 ⊢
  have hn9 : n ≤ 9223372036854775807 := by omega
  have HT := Lib.hid (And.intro (ptAt_new w p (.slice a n c) 95) (below_alloc w (.cells (partA p (.slice a n c)) 95)))
  have HF := Lib.hid hF
  clear hr hat hl2 hn hF
  go_enter Try.func79, Try.ntmps79
  go_upto_region 1 with fail
  generalize (w.alloc (.cells (partA p (.slice a n c)) 95)) = W at HT ⊢
  obtain ⟨hA, hb⟩ := HT.out
  obtain ⟨g, hg⟩ : ∃ g, g = w.heap.size := ⟨_, rfl⟩
  rw [← hg] at hA ⊢
  obtain ⟨c1, c2, c3⟩ := hA.cells hp
  simp only [Nat.zero_add] at c1 c2 c3
  have c4 := below_cells hb _ _ HF.out
  have HB := Lib.hid hb
  generalize p.pos = P at *
  generalize p.more = mo at *
  clear hA hb hg HT hp HF
  by_cases h1 : n = 0
  · subst h1
    have hr : r = false := by rw [HR.out]; simp
    subst hr
    go_wp2_with fail
    go_ret
    exact ⟨rfl, HB.out⟩
  · have k1 : ((n : Int) == 0) = false := by simp; exact h1
    by_cases h2 : P < 0
    · have hr : r = false := by rw [HR.out, decide_eq_false (show ¬ 0 ≤ P by omega)]; simp
      subst hr
      go_wp2_with fail
      go_ret
      exact ⟨rfl, HB.out⟩
    · have t3 : P.tmod 8 = P % 8 := Int.tmod_eq_emod_of_nonneg (by omega)
      have t4 : (n : Int).tmod 8 = (n : Int) % 8 := Int.tmod_eq_emod_of_nonneg (by omega)
      by_cases h3 : P % 8 = 0
      · have h3' : (P.tmod 8 != 0) = false := by rw [t3]; simp; exact h3
        have h3'' : (P % 8 != 0) = false := by simp; exact h3
        rcases mo with _ | _
        · by_cases h5 : (n : Int) ≤ most
          · have d5 : decide ((n : Int) ≤ most) = true := decide_eq_true h5
            have s5 : IntKind.i64.wrap (most - (n : Int)) = most - n := by rw [IntKind.wrap_i64]; omega
            by_cases h6 : P ≤ most - n
            · have hr : r = true := by rw [HR.out]; simp; omega
              subst hr
              clear t3 t4 h3
              go_wp2_with fail
              go_quiet (fail)
              go_wp2_with fail
              go_ret
              exact ⟨rfl, HB.out.then (below_drewN _ _)⟩
            · have hr : r = false := by rw [HR.out, decide_eq_false h6]; simp
              subst hr
              clear t3 t4 h3
              go_wp2_with fail
              go_quiet (fail)
              go_wp2_with fail
              go_ret
              exact ⟨(congrArg (fun b => Ending.returned (.bool b)) (decide_eq_false (show ¬ (P ≤ most - (n : Int)) by omega)) :), HB.out.then (below_drewN _ _)⟩
          · have d5 : decide ((n : Int) ≤ most) = false := decide_eq_false h5
            have hr : r = false := by rw [HR.out, d5]; simp
            subst hr
            clear t3 t4 h3
            go_wp2_with fail
            go_quiet (fail)
            go_wp2_with fail
            go_ret
            exact ⟨rfl, HB.out.then (below_drewN _ _)⟩
        · by_cases h4 : n % 8 = 0
          · have h4' : ((n : Int).tmod 8 != 0) = false := by rw [t4]; simp; omega
            have h4'' : ((n : Int) % 8 != 0) = false := by simp; omega
            by_cases h5 : (n : Int) ≤ most
            · have d5 : decide ((n : Int) ≤ most) = true := decide_eq_true h5
              have s5 : IntKind.i64.wrap (most - (n : Int)) = most - n := by rw [IntKind.wrap_i64]; omega
              by_cases h6 : P ≤ most - n
              · have hr : r = true := by rw [HR.out]; simp; omega
                subst hr
                clear t3 t4 h3 h4
                go_wp2_with fail
                go_quiet (fail)
                go_wp2_with fail
                go_ret
                exact ⟨rfl, HB.out.then (below_drewN _ _)⟩
              · have hr : r = false := by rw [HR.out, decide_eq_false h6]; simp
                subst hr
                clear t3 t4 h3 h4
                go_wp2_with fail
                go_quiet (fail)
                go_wp2_with fail
                go_ret
                exact ⟨(congrArg (fun b => Ending.returned (.bool b)) (decide_eq_false (show ¬ (P ≤ most - (n : Int)) by omega)) :), HB.out.then (below_drewN _ _)⟩
            · have d5 : decide ((n : Int) ≤ most) = false := decide_eq_false h5
              have hr : r = false := by rw [HR.out, d5]; simp
              subst hr
              clear t3 t4 h3 h4
              go_wp2_with fail
              go_quiet (fail)
              go_wp2_with fail
              go_ret
              exact ⟨rfl, HB.out.then (below_drewN _ _)⟩
          · have h4' : ((n : Int).tmod 8 != 0) = true := by rw [t4]; simp; omega
            have h4'' : ((n : Int) % 8 != 0) = true := by simp; omega
            have hr : r = false := by rw [HR.out, decide_eq_false h4]; simp
            subst hr
            clear t3 t4 h3 h4
            go_wp2_with fail
            go_ret
            exact ⟨rfl, HB.out⟩
      · have h3' : (P.tmod 8 != 0) = true := by rw [t3]; simp; exact h3
        have h3'' : (P % 8 != 0) = true := by simp; exact h3
        have hr : r = false := by rw [HR.out, decide_eq_false h3]; simp
        subst hr
        clear t3 t4 h3
        go_wp2_with fail
        go_ret
        exact ⟨rfl, HB.out⟩
end Go.Proofs.Ytnckmaieghlpmaa
