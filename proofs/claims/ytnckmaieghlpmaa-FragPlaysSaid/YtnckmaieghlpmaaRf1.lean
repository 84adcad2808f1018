/-
  The reference's parts (type 95) in memory; of, meets.
-/
import Derived.Test.YtnckmaieghlpmaaFpl
import Derived.Test.YtnckmaieghlpmaaPmxd
namespace Go.Proofs.Ytnckmaieghlpmaa
open Go.RowKit
set_option linter.unusedVariables false
set_option linter.unusedSimpArgs false

theorem info95s : (Try.prog.info? 95).map (·.size) = some 39 := by kernel_rfl
section
variable {ev : Operand → Value} {dst : Option Tmp} {x y : Operand} {ty : TypeId} {pos : String} {aft : Array Edge} {g : Option (Tmp × Bool)} {w : World}
theorem fold_ld95 : (execOp ev ⟨dst, .load 95 x, ty, pos, aft, g⟩).run Try.prog w = ldA 95 w (ev x) := rfl
theorem fold_st95 : (execOp ev ⟨dst, .store 95 x y, ty, pos, aft, g⟩).run Try.prog w = stA 95 w (ev x) (ev y) := rfl
end
theorem ld95_at {w : World} {b o : Nat} (h : has w b o 39 = true) : ldA 95 w (.pointer (some ⟨b, o, none⟩)) = .ok (.value (.agg (rd w b o 39))) w := ldA_at Try.underlying95 rfl info95s h
theorem st95_pt {w : World} {b o : Nat} {p : PartD} {v : Value} (hn : p.nm.ok) (hv : v.oneCell' = true) (h : free w b o 39 = true) : stA 95 w (.pointer (some ⟨b, o, none⟩)) (.agg (partA p v)) = Result.ok Next.skip (w.setCells b o (partL p v)) :=
  stA_at info95s (partA_size hn v) (partA_one hv) h
attribute [local go_sem ↓] fold_ld54 fold_st54 fold_ld95 fold_st95 Go.wp_at_zero Go.wp_at_succ
attribute [local go_sem] ld54_at st54_at ld95_at st95_pt free_new1

/-- two parts in boxes of a call's own -/
def TwoX (w W : World) (p q : PartD) (v u : Value) : Prop := PtAt W w.heap.size 0 p v ∧ PtAt W (w.heap.size + 1) 0 q u ∧ Below w.heap.size w W ∧ W.heap.size = w.heap.size + 2
theorem twoX (w : World) (p q : PartD) (v u : Value) : TwoX w ((w.alloc (.cells (partA p v) 95)).alloc (.cells (partA q u) 95)) p q v u := by
  refine ⟨(ptAt_new w p v 95).alloc _, ?_, ((Below.refl _ _).alloc (Nat.le_refl _) _).alloc (by simp) _, by simp⟩
  have := ptAt_new (w.alloc (.cells (partA p v) 95)) q u 95
  rwa [size_alloc] at this
theorem nm_eq {n m : NameD} (h1 : n.s1 = m.s1 ∧ n.A1 = m.A1) (h2 : n.s2 = m.s2 ∧ n.A2 = m.A2) (h3 : n.proto = m.proto) (h4 : n.id = m.id) : n = m := by
  cases n; cases m; simp only at h1 h2 h3 h4; simp only [h1, h2, h3, h4]

set_option maxRecDepth 100000 in
set_option maxHeartbeats 4000000 in
theorem of_any (w : World) (p q : PartD) (v u : Value) (hp : p.nm.ok) (hq : q.nm.ok) : Calls Try.prog 90 #[.agg (partA p v), .agg (partA q u)] w (ClRet w (decide (p.nm = q.nm))) := by
  have HT := Lib.hid (twoX w p q v u)
  obtain ⟨r, hr⟩ : ∃ r, r = decide (p.nm = q.nm) := ⟨_, rfl⟩
  rw [← hr]
  have HR := Lib.hid hr
  clear hr
  go_enter Try.func90, Try.ntmps90
  go_upto_region 1 with fail
  generalize (w.alloc (.cells (partA p v) 95)).alloc (.cells (partA q u) 95) = W at HT ⊢
  obtain ⟨hA, hB, hb, _⟩ := HT.out
  obtain ⟨g, hg⟩ : ∃ g, g = w.heap.size := ⟨_, rfl⟩
  rw [← hg] at hA hB ⊢
  obtain ⟨sA, sB, sp, si⟩ := hA.split hp
  obtain ⟨tA, tB, tp, ti⟩ := hB.split hq
  have d1 := sA.has hp.1
  have d2 := sA.rd hp.1
  have d3 := sB.has hp.2
  have d4 := sB.rd hp.2
  have d5 := tA.has hq.1
  have d6 := tA.rd hq.1
  have d7 := tB.has hq.2
  have d8 := tB.rd hq.2
  have r1 := fun w => adr_eq w p.nm.s1 q.nm.s1 p.nm.A1 q.nm.A1 hp.1 hq.1
  have r2 := fun w => adr_eq w p.nm.s2 q.nm.s2 p.nm.A2 q.nm.A2 hp.2 hq.2
  have HB := Lib.hid hb
  have HG := Lib.hid hg
  clear sA sB tA tB hA hB HT hg hb
  by_cases m1 : p.nm.s1 = q.nm.s1 ∧ p.nm.A1 = q.nm.A1
  · simp only [decide_eq_true m1] at r1
    by_cases m2 : p.nm.s2 = q.nm.s2 ∧ p.nm.A2 = q.nm.A2
    · simp only [decide_eq_true m2] at r2
      by_cases m3 : p.nm.proto = q.nm.proto
      · have p1 : ((p.nm.proto : Int) == (q.nm.proto : Int)) = true := by rw [m3]; simp
        by_cases m4 : p.nm.id = q.nm.id
        · have p2 : ((p.nm.id : Int) == (q.nm.id : Int)) = true := by rw [m4]; simp
          have hr : r = true := by rw [HR.out]; exact decide_eq_true (nm_eq m1 m2 m3 m4)
          subst hr
          clear m1 m2 m3 m4
          go_wp2_with fail
          go_ret
          exact ⟨rfl, HB.out⟩
        · have p2 : ((p.nm.id : Int) == (q.nm.id : Int)) = false := by simp only [beq_eq_false_iff_ne]; omega
          have hr : r = false := by rw [HR.out]; exact decide_eq_false (fun e => m4 (by rw [e]))
          subst hr
          clear m1 m2 m3 m4
          go_wp2_with fail
          go_ret
          exact ⟨rfl, HB.out⟩
      · have p1 : ((p.nm.proto : Int) == (q.nm.proto : Int)) = false := by simp only [beq_eq_false_iff_ne]; omega
        have hr : r = false := by rw [HR.out]; exact decide_eq_false (fun e => m3 (by rw [e]))
        subst hr
        clear m1 m2 m3
        go_wp2_with fail
        go_ret
        exact ⟨rfl, HB.out⟩
    · simp only [decide_eq_false m2] at r2
      have hr : r = false := by rw [HR.out]; exact decide_eq_false (fun e => m2 (by rw [e]; exact ⟨rfl, rfl⟩))
      subst hr
      clear m1 m2
      go_wp2_with fail
      go_ret
      exact ⟨rfl, HB.out⟩
  · simp only [decide_eq_false m1] at r1
    have hr : r = false := by rw [HR.out]; exact decide_eq_false (fun e => m1 (by rw [e]; exact ⟨rfl, rfl⟩))
    subst hr
    clear m1
    go_wp2_with fail
    go_ret
    exact ⟨rfl, HB.out⟩

set_option maxRecDepth 100000 in
set_option maxHeartbeats 4000000 in
theorem meets_any (w : World) (p q : PartD) (v u : Value) (hp : p.nm.ok) (hq : q.nm.ok) (hv : Bs w v p.bs) (hu : Bs w u q.bs) (fp : Fits p) (fq : Fits q) (p0 : 0 ≤ p.pos) (q0 : 0 ≤ q.pos) (hp1 : 0 < p.bs.length) (hq1 : 0 < q.bs.length) :
    Calls Try.prog 91 #[.agg (partA p v), .agg (partA q u)] w (ClRet w (decide (p.pos < q.fin ∧ q.pos < p.fin))) := by
  have HT := Lib.hid (twoX w p q v u)
  obtain ⟨r, hr⟩ : ∃ r, r = decide (p.pos < q.fin ∧ q.pos < p.fin) := ⟨_, rfl⟩
  rw [← hr]
  have HR := Lib.hid hr
  clear hr
  go_enter Try.func91, Try.ntmps91
  go_upto_region 1 with fail
  generalize (w.alloc (.cells (partA p v) 95)).alloc (.cells (partA q u) 95) = W at HT ⊢
  obtain ⟨hA, hB, hb, _⟩ := HT.out
  obtain ⟨g, hg⟩ : ∃ g, g = w.heap.size := ⟨_, rfl⟩
  rw [← hg] at hA hB ⊢
  obtain ⟨c1, c2, c3⟩ := hA.cells hp
  obtain ⟨c4, c5, c6⟩ := hB.cells hq
  simp only [Nat.zero_add] at c1 c2 c3 c4 c5 c6
  obtain ⟨a, c, rfl, hl1, hl2, hat⟩ := hv
  obtain ⟨a', c', rfl, hl1', hl2', hat'⟩ := hu
  have HB := Lib.hid hb
  have hfp : p.fin = p.pos + (p.bs.length : Int) := rfl
  have hfq : q.fin = q.pos + (q.bs.length : Int) := rfl
  have f1 := fp.2
  have f2 := fq.2
  rw [hfp] at f1
  rw [hfq] at f2
  have HI : Hid (∀ j : Nat, j < p.bs.length → (q.pos ≤ p.pos + (j : Int) ∧ p.pos + (j : Int) < q.pos + (q.bs.length : Int)) → r = true) := Lib.hid (fun j hj h => by rw [HR.out]; exact decide_eq_true (meets_yes hj (by rw [hfq]; exact h)))
  have HJ : Hid ((∀ j : Nat, j < p.bs.length → ¬ (q.pos ≤ p.pos + (j : Int) ∧ p.pos + (j : Int) < q.pos + (q.bs.length : Int))) → r = false) := Lib.hid (fun h => by rw [HR.out]; exact decide_eq_false (meets_no hp1 hq1 (fun j hj => by rw [hfq]; exact h j hj)))
  generalize p.bs.length = n at *
  generalize q.bs.length = m at *
  generalize p.pos = P at *
  generalize q.pos = Q at *
  unfold maxLen at hl2 hl2'
  clear hA hB HT hg hb hat hat' hfp hfq fp fq HR hp hq
  go_wp2_with fail
  go_loop [5] (fun i => ∃ k : Nat, i = .int .i64 k ∧ k ≤ n ∧ Hid (∀ j : Nat, j < k → ¬ (Q ≤ P + (j : Int) ∧ P + (j : Int) < Q + (m : Int)))) (fun i => n - (intOf i).toNat)
  case atStart => exact ⟨0, rfl, Nat.zero_le _, fun j h => absurd h (by omega)⟩
  case round =>
    obtain ⟨k, rfl, hk, HX⟩ := hrel
    by_cases hlt : k < n
    · by_cases g1 : Q ≤ P + (k : Int)
      · by_cases g2 : P + (k : Int) < Q + (m : Int)
        · have hr := HI.out k hlt ⟨g1, g2⟩
          subst hr
          go_wp2_with fail
          go_ret
          exact ⟨rfl, HB.out⟩
        · go_wp2_with fail
          go_round
          case rel => exact ⟨k + 1, by go_num, by omega, fun j hj => by
            by_cases e : j = k
            · subst e; exact fun h => g2 h.2
            · exact HX.out j (by omega)⟩
          case measure => simp [intOf]; omega
      · go_wp2_with fail
        go_round
        case rel => exact ⟨k + 1, by go_num, by omega, fun j hj => by
            by_cases e : j = k
            · subst e; exact fun h => g1 h.1
            · exact HX.out j (by omega)⟩
        case measure => simp [intOf]; omega
    · obtain rfl : k = n := by omega
      have hr := HJ.out HX.out
      subst hr
      go_wp2_with fail
      go_ret
      exact ⟨rfl, HB.out⟩
end Go.Proofs.Ytnckmaieghlpmaa
