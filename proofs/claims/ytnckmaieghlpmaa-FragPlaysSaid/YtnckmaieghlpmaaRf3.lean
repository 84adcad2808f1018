/-
  The reference's place and without.
-/
import Derived.Test.YtnckmaieghlpmaaRmem
namespace Go.Proofs.Ytnckmaieghlpmaa
open Go.RowKit
set_option linter.unusedVariables false
set_option linter.unusedSimpArgs false
attribute [local go_sem ↓] fold_ld54 fold_st54 fold_ld95 fold_st95 Go.wp_at_zero Go.wp_at_succ
attribute [local go_sem] ld54_at st54_at ld95_at st95_pt free_new1

theorem info137m : (Try.prog.info? 137).map (fun i => (i.zero, i.size, i.bytes)) = some (some (.slice none 0 0), 1, 24) := by kernel_rfl
/-- names and bounds of all parts that the table keeps -/
theorem TabRL.part {w : World} {M : Nat → Prop} {F : Nat} {many most : Int} {lv : Value} {L : List RkM} (h : TabRL w M F many most lv L) (hO : OkT many most (L.map RkM.T)) {x : RkM} (hx : x ∈ L) : x.ps ≠ [] ∧ x.nm.fit ∧ ∀ z ∈ x.ps, z.1.nm = x.nm ∧ mayB most z.1 = true ∧ z.1 ∈ x.S := by
  have ho := hO.ok x.T (List.mem_map_of_mem hx)
  have hp := h.sim x hx
  refine ⟨fun e => ?_, ho.1.fit, fun z hz => ?_⟩
  · rw [e] at hp
    exact ho.2 (List.Perm.nil_eq hp).symm
  · have hm : z.1 ∈ x.S := hp.subset (List.mem_map_of_mem hz)
    exact ⟨ho.1.nm z.1 hm, ho.1.may z.1 hm, hm⟩
/-- a packet's parts in their row -/
theorem TabRL.row {w : World} {M : Nat → Prop} {F : Nat} {many most : Int} {lv : Value} {L : List RkM} (h : TabRL w M F many most lv L) {x : RkM} (hx : x ∈ L) (hne : x.ps ≠ []) (hok : ∀ z ∈ x.ps, z.1.nm.ok) : ∃ gx c, x.v = .slice (some ⟨gx, 0, none⟩) x.ps.length c ∧ x.ps.length ≤ c ∧ c ≤ 9223372036854775807 ∧ M gx ∧ ∀ k z, x.ps[k]? = some z → PtAt w gx (k * 39) z.1 z.2 := by
  have hrow := h.rows x hx
  obtain ⟨gx, c, e, h1, h2⟩ := own_some hrow.1 (fun e0 => hne (List.eq_nil_of_length_eq_zero e0))
  refine ⟨gx, c, e, h1, h2, hrow.2 gx (by rw [e]; rfl), fun k z hz j u hu => ?_⟩
  have hs : ∀ y ∈ x.ps, (partL y.1 y.2).length = 39 := fun y hy => partL_len (hok y hy) _
  have hj : j < 39 := by have := (List.getElem?_eq_some_iff.1 hu).1; rwa [hs z (List.mem_of_getElem? hz)] at this
  have := flat_at (fun x : PartD × Value => partL x.1 x.2) 39 x.ps hs k j z hz hj
  exact own_range hrow.1 e (this.trans hu)
theorem TabRL.one {w : World} {M : Nat → Prop} {F : Nat} {many most : Int} {lv : Value} {L : List RkM} (h : TabRL w M F many most lv L) {x : RkM} (hx : x ∈ L) : ∀ z ∈ x.ps, z.2.oneCell' = true := fun z hz => own_one (h.bs x hx z hz).1

def SPl (gl k gx gp : Nat) (xv : Value) (y p : PartD) (yv v : Value) (w' : World) : Prop := w'.cell? ⟨gl, k, none⟩ = some xv ∧ has w' gx 0 39 = true ∧ rd w' gx 0 39 = partA y yv ∧ has w' gp 0 39 = true ∧ rd w' gp 0 39 = partA p v
set_option maxRecDepth 100000 in
set_option maxHeartbeats 4000000 in
theorem place_any (w : World) (M : Nat → Prop) (F : Nat) (many most : Int) (lv : Value) (L : List RkM) (hT : TabRL w M F many most lv L) (hO : OkT many most (L.map RkM.T)) (p : PartD) (v : Value) (hp : p.nm.fit) (hL : L.length ≤ 1048577) :
    Calls Try.prog 80 #[lv, .agg (partA p v)] w fun e w' => e = .returned (.int .i64 (ixR (fun x : RkM => decide (x.nm = p.nm)) L)) ∧ Below w.heap.size w w' := by
  have HT := Lib.hid hT
  have HO := Lib.hid hO
  have HP := Lib.hid hp
  obtain ⟨a, c, rfl, hlc, hc⟩ := hT.lvshape
  obtain ⟨R, hR⟩ : ∃ R, R = ixR (fun x : RkM => decide (x.nm = p.nm)) L := ⟨_, rfl⟩
  rw [← hR]
  have HR := Lib.hid hR
  obtain ⟨n, hn⟩ : ∃ n, n = L.length := ⟨_, rfl⟩
  rw [← hn] at hlc hL HT ⊢
  have HN := Lib.hid hn
  have HW := Lib.hid (And.intro (ptAt_new w p v 95) (below_alloc w (.cells (partA p v) 95)))
  clear hT hO hp hR hn
  go_enter Try.func80, Try.ntmps80
  go_upto_region 1 with fail
  generalize (w.alloc (.cells (partA p v) 95)) = W at HW ⊢
  obtain ⟨gp, hgp⟩ : ∃ g, g = w.heap.size := ⟨_, rfl⟩
  have HGP := Lib.hid hgp
  rw [← hgp] at HW ⊢
  clear hgp
  go_wp2_with fail
  go_loopw [5] (fun i wr => ∃ k : Nat, i = .int .i64 k ∧ k ≤ n ∧ Hid ((∀ j x, L[j]? = some x → j < k → decide (x.nm = p.nm) = false) ∧ Below W.heap.size W wr)) (fun i _ => n - (intOf i).toNat)
  case atStart => exact ⟨0, rfl, Nat.zero_le _, fun j x _ h => absurd h (by omega), Below.refl _ _⟩
  case round =>
    obtain ⟨k, rfl, hk, HX⟩ := hrel
    by_cases hlt : k < n
    · obtain ⟨x, hx⟩ : ∃ x, L[k]? = some x := ⟨L[k]'(by rw [← HN.out]; exact hlt), by rw [List.getElem?_eq_getElem]⟩
      have hxm := List.mem_of_getElem? hx
      have HB : Hid (Below w.heap.size w wr) := Lib.hid (by have := HW.out.2; rw [HGP.out] at this; exact this.then HX.out.2)
      have HTR := Lib.hid (HT.out.below HB.out)
      have hpt := HTR.out.part HO.out hxm
      obtain ⟨gl, cl, hlv, _, _, _, hcells⟩ := HTR.out.shape hx
      cases hlv
      obtain ⟨gx, cx, hxv, hx1, hx2, _, hpts⟩ := HTR.out.row hxm hpt.1 (fun z hz => by rw [(hpt.2.2 z hz).1]; exact hpt.2.1.1)
      obtain ⟨y, hy⟩ : ∃ y, x.ps[0]? = some y := ⟨x.ps[0]'(List.length_pos_iff.2 hpt.1), List.getElem?_eq_getElem _⟩
      have hym := List.mem_of_getElem? hy
      have HYN : Hid (y.1.nm = x.nm) := Lib.hid (hpt.2.2 y hym).1
      have hok : y.1.nm.ok := by rw [HYN.out]; exact hpt.2.1.1
      have hok2 := HP.out.1
      have q1 := hcells k x hx
      rw [hxv] at q1
      obtain ⟨mx, hmx⟩ : ∃ m, m = x.ps.length := ⟨_, rfl⟩
      have hm0 : 0 < mx := by rw [hmx]; exact List.length_pos_iff.2 hpt.1
      rw [← hmx] at q1 hx1
      have hpy := hpts 0 y hy
      rw [Nat.zero_mul] at hpy
      have HS : Hid (∀ w', Below wr.heap.size wr w' → SPl gl k gx gp (.slice (some ⟨gx, 0, none⟩) mx cx) y.1 p y.2 v w') := Lib.hid (fun w' hb => ⟨below_cells hb _ _ q1, (hpy.below hb).has hok, (hpy.below hb).rd hok, ((HW.out.1.below HX.out.2).below hb).has hok2, ((HW.out.1.below HX.out.2).below hb).rd hok2⟩)
      have HXX := Lib.hid hx
      clear hpt hcells hpts hym hy hxm hx hpy q1 hxv hmx
      go_upto_region 4 with fail
      refine wp_region_held_drew (S := fun w' => SPl gl k gx gp (.slice (some ⟨gx, 0, none⟩) mx cx) y.1 p y.2 v w') (by kernel_rfl) (HS.out _ (drew_below wr)) (fun hHeld => ?_)
      refine' wpAnyH_take (i := 0) (v := _) rfl (by kernel_rfl) (by kernel_rfl) (by kernel_rfl) (fun _ _ _ h => h) (Or.inl ⟨by rfl, ?hy1⟩) hHeld ?rest1
      case hy1 => (intro w' hS; obtain ⟨s1, s2, s3, s4, s5⟩ := hS; (try simp only [List.getElem_toArray, List.getElem_cons_zero, List.getElem_cons_succ]); go_simp; try with_reducible rfl)
      try simp only [List.getElem_toArray, List.getElem_cons_zero, List.getElem_cons_succ, Act.put, List.setIfInBounds_toArray, List.set_cons_zero, List.set_cons_succ]
      refine' wpAnyH_take (i := 1) (v := _) rfl (by kernel_rfl) (by kernel_rfl) (by kernel_rfl) (fun _ _ _ h => h) (Or.inl ⟨by rfl, ?hy2⟩) hHeld ?rest2
      case hy2 => (intro w' hS; obtain ⟨s1, s2, s3, s4, s5⟩ := hS; (try simp only [List.getElem_toArray, List.getElem_cons_zero, List.getElem_cons_succ]); go_simp; try with_reducible rfl)
      try simp only [List.getElem_toArray, List.getElem_cons_zero, List.getElem_cons_succ, Act.put, List.setIfInBounds_toArray, List.set_cons_zero, List.set_cons_succ]
      refine' wpAnyH_take (i := 2) (v := _) rfl (by kernel_rfl) (by kernel_rfl) (by kernel_rfl) (fun _ _ _ h => h) (Or.inl ⟨by rfl, ?hy3⟩) hHeld ?rest3
      case hy3 => (intro w' hS; obtain ⟨s1, s2, s3, s4, s5⟩ := hS; (try simp only [List.getElem_toArray, List.getElem_cons_zero, List.getElem_cons_succ]); go_simp; try with_reducible rfl)
      try simp only [List.getElem_toArray, List.getElem_cons_zero, List.getElem_cons_succ, Act.put, List.setIfInBounds_toArray, List.set_cons_zero, List.set_cons_succ]
      refine' wpAnyH_take (i := 3) (v := _) rfl (by kernel_rfl) (by kernel_rfl) (by kernel_rfl) (fun _ _ _ h => h) (Or.inl ⟨by rfl, ?hy4⟩) hHeld ?rest4
      case hy4 => (intro w' hS; obtain ⟨s1, s2, s3, s4, s5⟩ := hS; (try simp only [List.getElem_toArray, List.getElem_cons_zero, List.getElem_cons_succ]); go_simp; try with_reducible rfl)
      try simp only [List.getElem_toArray, List.getElem_cons_zero, List.getElem_cons_succ, Act.put, List.setIfInBounds_toArray, List.set_cons_zero, List.set_cons_succ]
      refine' wpAnyH_take (i := 4) (v := _) rfl (by kernel_rfl) (by kernel_rfl) (by kernel_rfl) (fun _ _ _ h => h) (Or.inl ⟨by rfl, ?hy5⟩) hHeld ?rest5
      case hy5 => (intro w' hS; obtain ⟨s1, s2, s3, s4, s5⟩ := hS; (try simp only [List.getElem_toArray, List.getElem_cons_zero, List.getElem_cons_succ]); go_simp; try with_reducible rfl)
      try simp only [List.getElem_toArray, List.getElem_cons_zero, List.getElem_cons_succ, Act.put, List.setIfInBounds_toArray, List.set_cons_zero, List.set_cons_succ]
      refine' wpAnyH_take (i := 5) (v := _) rfl (by kernel_rfl) (by kernel_rfl) (by kernel_rfl) (fun _ _ _ h => h) (Or.inl ⟨by rfl, ?hy6⟩) hHeld ?rest6
      case hy6 => (intro w' hS; obtain ⟨s1, s2, s3, s4, s5⟩ := hS; (try simp only [List.getElem_toArray, List.getElem_cons_zero, List.getElem_cons_succ]); go_simp; try with_reducible rfl)
      try simp only [List.getElem_toArray, List.getElem_cons_zero, List.getElem_cons_succ, Act.put, List.setIfInBounds_toArray, List.set_cons_zero, List.set_cons_succ]
      refine' wpAnyH_take (i := 6) (v := _) rfl (by kernel_rfl) (by kernel_rfl) (by kernel_rfl) (fun _ _ _ h => h) (Or.inl ⟨by rfl, ?hy7⟩) hHeld ?rest7
      case hy7 => (intro w' hS; obtain ⟨s1, s2, s3, s4, s5⟩ := hS; (try simp only [List.getElem_toArray, List.getElem_cons_zero, List.getElem_cons_succ]); go_simp; try with_reducible rfl)
      try simp only [List.getElem_toArray, List.getElem_cons_zero, List.getElem_cons_succ, Act.put, List.setIfInBounds_toArray, List.set_cons_zero, List.set_cons_succ]
      refine wpAnyH_ready (rs := [7]) (by kernel_rfl) (by simp) ?_
      refine (AllReadyH.cons rfl (fun K hK => ?_) AllReadyH.nil)
      obtain ⟨s1, s2, s3, s4, s5⟩ := hHeld
      go_simp
      refine (of_any _ y.1 p y.2 v hok hok2).mono ?_
      rintro e w3 ⟨rfl, hb3⟩
      have HB3 := Lib.hid ((drew_below wr).then hb3)
      rw [HYN.out]
      clear hb3 s1 s2 s3 s4 s5
      go_wp2_with fail
      refine hK.out _ _ (HS.out _ HB3.out) (fun hHeld => ?_)
      clear hK K
      try simp only [List.getElem_toArray, List.getElem_cons_zero, List.getElem_cons_succ, Act.put, List.setIfInBounds_toArray, List.set_cons_zero, List.set_cons_succ]
      refine wpAnyH_done (by kernel_rfl) ?_ _
      clear hHeld
      by_cases he : x.nm = p.nm
      · have he' := decide_eq_true he
        rw [he']
        have HE := Lib.hid he
        clear he he'
        go_wp2_with fail
        go_ret
        exact ⟨by rw [HR.out, ixR_some HXX.out (decide_eq_true HE.out) HX.out.1]; rfl, by have := HW.out.2; rw [HGP.out] at this; exact (this.then HX.out.2).then HB3.out⟩
      · have he' := decide_eq_false he
        rw [he']
        have HE := Lib.hid he
        clear he he'
        go_wp2_with fail
        go_roundw
        case rel =>
          refine ⟨k + 1, by go_num, by omega, fun j z hz hj => ?_, HX.out.2.then HB3.out⟩
          by_cases hjk : j = k
          · subst hjk
            rw [HXX.out] at hz; cases hz; exact decide_eq_false HE.out
          · exact HX.out.1 j z hz (by omega)
        case measure => simp [intOf]; omega
    · go_wp2_with fail
      go_ret
      exact ⟨by rw [HR.out, ixR_none (fun j y hy => HX.out.1 j y hy (by
        have := (List.getElem?_eq_some_iff.1 hy).1
        rw [← HN.out] at this; omega))]; rfl, by have := HW.out.2; rw [HGP.out] at this; exact this.then HX.out.2⟩
end Go.Proofs.Ytnckmaieghlpmaa
