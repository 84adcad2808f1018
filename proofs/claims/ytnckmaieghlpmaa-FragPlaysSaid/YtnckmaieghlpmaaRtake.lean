/-
  The reference's Take, walked.
-/
import Derived.Test.YtnckmaieghlpmaaRj2
namespace Go.Proofs.Ytnckmaieghlpmaa
open Go.RowKit
set_option linter.unusedVariables false
set_option linter.unusedSimpArgs false
attribute [local go_sem ↓] fold_ld54 fold_st54 fold_ld95 fold_st95 fold_bs137 Go.wp_at_zero Go.wp_at_succ
attribute [local go_sem] ld54_at st54_at ld95_at st95_pt free_new1 bs137_at

def S3 (F gp : Nat) (lv : Value) (p : PartD) (v : Value) (w' : World) : Prop := w'.cell? ⟨F, 2, none⟩ = some lv ∧ has w' gp 0 39 = true ∧ rd w' gp 0 39 = partA p v
theorem RJ.s3 {w : World} {M : Nat → Prop} {F : Nat} {many most : Int} {p : PartD} {v : Value} {gp : Nat} {wx wy : World} {lv : Value} {L : List RkM} (h : RJ w M F many most p v gp wx lv L) (hok : p.nm.ok) (hb : Below wx.heap.size wx wy) : S3 F gp lv p v wy :=
  ⟨(h.below hb).tab.cells.2.2.1, (h.below hb).cp.has hok, (h.below hb).cp.rd hok⟩
def S14 (F gp gl i gx o : Nat) (lv xv : Value) (p q : PartD) (v u : Value) (w' : World) : Prop := w'.cell? ⟨F, 2, none⟩ = some lv ∧ w'.cell? ⟨gl, i, none⟩ = some xv ∧ has w' gp 0 39 = true ∧ rd w' gp 0 39 = partA p v ∧ has w' gx o 39 = true ∧ rd w' gx o 39 = partA q u
def S22 (gp : Nat) (p : PartD) (v : Value) (w' : World) : Prop := has w' gp 0 39 = true ∧ rd w' gp 0 39 = partA p v
/-- a packet that is there: its cell in the row, its parts' row, what is known of them -/
structure PkX (F gl i m gx cx : Nat) (most : Int) (x : RkM) (wx : World) : Prop where
  cell : wx.cell? ⟨gl, i, none⟩ = some (.slice (some ⟨gx, 0, none⟩) m cx)
  len : m = x.ps.length
  cap : m ≤ cx ∧ cx ≤ 9223372036854775807
  small : m ≤ 1048577
  pts : ∀ k z, x.ps[k]? = some z → PtAt wx gx (k * 39) z.1 z.2 ∧ z.1.nm.ok ∧ mayB most z.1 = true ∧ Own wx 0 z.2 z.1.bs
  sim : (x.ps.map (·.1)).Perm x.S
theorem PkX.below {F gl i m gx cx : Nat} {most : Int} {x : RkM} {wx wy : World} (h : PkX F gl i m gx cx most x wx) (hb : Below wx.heap.size wx wy) : PkX F gl i m gx cx most x wy :=
  ⟨below_cells hb _ _ h.cell, h.len, h.cap, h.small, fun k z hz => ⟨(h.pts k z hz).1.below hb, (h.pts k z hz).2.1, (h.pts k z hz).2.2.1, Own.below (h.pts k z hz).2.2.2 hb⟩, h.sim⟩
theorem pkx_of {w : World} {M : Nat → Prop} {F : Nat} {many most : Int} {lv : Value} {L : List RkM} (h : TabRL w M F many most lv L) (hO : OkT many most (L.map RkM.T)) (hsm : SmT (L.map RkM.T)) {i : Nat} {x : RkM} (hx : L[i]? = some x) :
    ∃ gl cl m gx cx, lv = .slice (some ⟨gl, 0, none⟩) L.length cl ∧ L.length ≤ cl ∧ cl ≤ 9223372036854775807 ∧ i < L.length ∧ x.v = .slice (some ⟨gx, 0, none⟩) m cx ∧ M gl ∧ PkX F gl i m gx cx most x w := by
  have hxm := List.mem_of_getElem? hx
  have hpt := h.part hO hxm
  have hokz : ∀ z ∈ x.ps, z.1.nm.ok := fun z hz => by rw [(hpt.2.2 z hz).1]; exact hpt.2.1.1
  obtain ⟨gl, cl, hlv, hl1, hl2, hM, hcells⟩ := h.shape hx
  obtain ⟨gx, cx, hxv, hx1, hx2, _, hpts⟩ := h.row hxm hpt.1 hokz
  refine ⟨gl, cl, x.ps.length, gx, cx, hlv, hl1, hl2, (List.getElem?_eq_some_iff.1 hx).1, hxv, hM, by rw [← hxv]; exact hcells i x hx, rfl, ⟨hx1, hx2⟩, ?_, fun k z hz => ⟨hpts k z hz, hokz z (List.mem_of_getElem? hz), (hpt.2.2 z (List.mem_of_getElem? hz)).2.1, (h.bs x hxm z (List.mem_of_getElem? hz)).1⟩, h.sim x hxm⟩
  have h3 := (hsm.2 x.T (List.mem_map_of_mem hxm)).1
  have h4 := (h.sim x hxm).length_eq
  rw [List.length_map] at h4
  have h5 : x.S.length ≤ 1048576 := h3
  omega

theorem TabRL.vsome {w : World} {M : Nat → Prop} {F : Nat} {many most : Int} {lv : Value} {L : List RkM} (h : TabRL w M F many most lv L) (hO : OkT many most (L.map RkM.T)) : ∀ x ∈ L, x.v.ownBlock ≠ none := fun x hx => by
  obtain ⟨g, c, e, _⟩ := own_some (h.rows x hx).1 (fun e0 => (h.part hO hx).1 (List.eq_nil_of_length_eq_zero e0))
  rw [e]; simp [Value.ownBlock]
section
variable {w : World} {M : Nat → Prop} {F : Nat} {many most : Int} {T : List PkT} {p : PartD} {v : Value} {gp : Nat} {wx wy wb w1 : World} {lv : Value} {L : List RkM}
theorem RJ.s22 (h : RJ w M F many most p v gp wx lv L) (hok : p.nm.ok) (hb : Below wx.heap.size wx wy) : S22 gp p v wy := ⟨(h.below hb).cp.has hok, (h.below hb).cp.rd hok⟩
theorem rj_app_s (h : RJ w M F many most p v gp wx lv L) (hok : p.nm.ok) (hbb : Below wx.heap.size wx wb) (hgr : wb.grownBy w1 lv.ownBlock) : S22 gp p v w1 ∧ w1.cell? ⟨F, 2, none⟩ = some lv ∧ w1.frozen? ⟨F, 2, none⟩ = false ∧ ∀ u, S22 gp p v (w1.setCell ⟨F, 2, none⟩ u) := by
  have hn := h.noM wx
  have hb := h.below hbb
  have hFg : gp ≠ F := fun e => hn (by rw [e]; exact .inl h.inF)
  have hpt : PtAt w1 gp 0 p v := fun j z hz => hgr.cell (hb.cp j z hz) (fun e => hn (h.tab.inl gp e.symm))
  have hnF : some F ≠ lv.ownBlock := fun e => h.tab.noF e.symm rfl
  have hpt2 : ∀ u, PtAt (w1.setCell ⟨F, 2, none⟩ u) gp 0 p v := fun u j z hz => by
    rw [World.cell?_setCell_other w1 ⟨F, 2, none⟩ _ _ (fun e => hFg (congrArg Addr.block e).symm)]
    exact hpt j z hz
  refine ⟨⟨hpt.has hok, hpt.rd hok⟩, hgr.cell hb.tab.cells.2.2.1 hnF, ?_, fun u => ⟨(hpt2 u).has hok, (hpt2 u).rd hok⟩⟩
  rw [World.frozen?_of_block (a := ⟨F, 2, none⟩) (hgr.block F (hb.tab.sub F hb.tab.inF) hnF)]
  exact hb.tab.cells.2.2.2
theorem rj_ins_s (h : RJ w M F many most p v gp wx lv L) (hok : p.nm.ok) {i gl n c : Nat} {x : RkM} (hx : L[i]? = some x) (hlv : lv = .slice (some ⟨gl, 0, none⟩) n c) (hbb : Below wx.heap.size wx wb) (hgr : wb.grownBy w1 x.v.ownBlock) :
    S3 F gp lv p v w1 ∧ w1.cell? ⟨gl, i, none⟩ = some x.v ∧ w1.frozen? ⟨gl, i, none⟩ = false ∧ ∀ u, S3 F gp lv p v (w1.setCell ⟨gl, i, none⟩ u) := by
  have hn := h.noM wx
  have hb := h.below hbb
  have hxm := List.mem_of_getElem? hx
  have hgl : lv.ownBlock = some gl := by rw [hlv]; rfl
  have hglp : gp ≠ gl := fun e => hn (by have h0 := h.tab.inl gl hgl; rw [← e] at h0; exact h0)
  have hglF : F ≠ gl := Ne.symm (h.tab.noF hgl)
  obtain ⟨curl, hcl⟩ := ownsRow_type hb.tab.own hgl
  have hpt : PtAt w1 gp 0 p v := fun j z hz => hgr.cell (hb.cp j z hz) (fun e => hn ((h.tab.rows x hxm).2 gp e.symm))
  have hnF : some F ≠ x.v.ownBlock := fun e => by
    obtain ⟨cur, hc⟩ := ownsRow_type (hb.tab.rows x hxm).1 e.symm
    exact type_apart hc hb.tab.blk (by decide) rfl
  have hng : some gl ≠ x.v.ownBlock := fun e => by
    obtain ⟨cur, hc⟩ := ownsRow_type (hb.tab.rows x hxm).1 e.symm
    exact type_apart hc hcl (by decide) rfl
  have hc1 := hgr.cell hb.tab.cells.2.2.1 hnF
  have hpt2 : ∀ u, PtAt (w1.setCell ⟨gl, i, none⟩ u) gp 0 p v := fun u j z hz => by
    rw [World.cell?_setCell_other w1 ⟨gl, i, none⟩ _ _ (fun e => hglp (congrArg Addr.block e).symm)]
    exact hpt j z hz
  obtain ⟨gl', cl', hlv', _, _, _, hcells⟩ := hb.tab.shape hx
  have hgg : gl' = gl := by rw [hlv] at hlv'; cases hlv'; rfl
  subst hgg
  refine ⟨⟨hc1, hpt.has hok, hpt.rd hok⟩, hgr.cell (hcells i x hx) hng, ?_, fun u => ⟨?_, (hpt2 u).has hok, (hpt2 u).rd hok⟩⟩
  · rw [World.frozen?_of_block (a := ⟨gl', i, none⟩) (hgr.block gl' (lt_of_block hcl) hng)]
    simp [World.frozen?, hcl]
  · rw [World.cell?_setCell_other w1 ⟨gl', i, none⟩ _ _ (fun e => hglF (congrArg Addr.block e).symm)]
    exact hc1
theorem rj3_end {i : Nat} {x : RkM} (h : RJ3 w M F many most T p gp wx lv L i x) (hw : wholeB x.S = false) {e : Ending} (he : e = .returned (.tuple #[.slice none 0 0, .bool false, .int .i64 7])) : RTakeRet w M F many most T p e wx := by
  have hst := h.step
  rw [if_neg (by rw [hw]; simp)] at hst
  unfold RTakeRet
  rw [hst]
  exact ⟨.slice none 0 0, Mx M gp wx, he, own_nil _ _, ⟨lv, L, h.tab, rfl⟩, mx_old h.ord.1, (fun k hk => by cases hk), h.only⟩
end

set_option maxRecDepth 100000 in
set_option maxHeartbeats 8000000 in
theorem rtake_in (w : World) (M : Nat → Prop) (F : Nat) (many most : Int) (lv : Value) (L : List RkM) (p : PartD) (v : Value) (hT : TabRL w M F many most lv L) (hp : p.nm.fit) (hv : Bs w v p.bs) (hvM : ∀ k, v.ownBlock = some k → ¬ M k)
    (hm : ¬ many < 1) (hmost : most ≤ 9223372036854775807) (hmay : mayB most p = true) (hO : OkT many most (L.map RkM.T)) (hsm : SmT (L.map RkM.T)) (hpl : p.bs.length ≤ 1048576) :
    Calls Try.prog 52 #[.pointer (some ⟨F, 0, none⟩), .agg (partA p v)] w (RTakeRet w M F many most (L.map RkM.T) p) := by
  have HP := Lib.hid hp
  have HV := Lib.hid hv
  have HVM := Lib.hid hvM
  have HM := Lib.hid (fun w' h => rmay_any w' F most p v hp.1 (hv.below h) (below_cells h _ _ hT.cells.2.1) hmost)
  have HMY := Lib.hid hmay
  have HMN := Lib.hid hm
  have HO := Lib.hid hO
  have HSM := Lib.hid hsm
  have HLEN : Hid (L.length ≤ 1048576) := Lib.hid (by have := hsm.1; rwa [List.length_map] at this)
  have HPL := Lib.hid hpl
  have hok := hp.1
  have HJ0 := Lib.hid (rj_new (p := p) (v := v) hT (Below.refl _ _))
  have HB0 := Lib.hid (below_alloc w (.cells (partA p v) 95))
  obtain ⟨a, c, rfl, hlc, hc⟩ := hT.lvshape
  obtain ⟨R, hR⟩ : ∃ R, R = ixR (fun x : RkM => decide (x.nm = p.nm)) L := ⟨_, rfl⟩
  have HPLC : Hid (∀ w' N, TabRL w' N F many most (.slice a L.length c) L → Calls Try.prog 80 #[.slice a L.length c, .agg (partA p v)] w' fun e w'' => e = .returned (.int .i64 R) ∧ Below w'.heap.size w' w'') := Lib.hid (fun w' N h => by rw [hR]; exact place_any w' N F many most _ L h hO p v hp (by have := HLEN.out; omega))
  have HR := Lib.hid hR
  obtain ⟨Q, hQ⟩ : ∃ Q, Q = RTakeRet w M F many most (L.map RkM.T) p := ⟨_, rfl⟩
  rw [← hQ]
  have HQ := Lib.hid hQ
  clear hQ hR hT hp hv hvM hmay hO hsm hpl
  go_enter Try.func52, Try.ntmps52
  go_upto_region 1 with fail
  generalize w.alloc (.cells (partA p v) 95) = w0 at HJ0 HB0 ⊢
  obtain ⟨gp, hgp⟩ : ∃ g, g = w.heap.size := ⟨_, rfl⟩
  have HGP := Lib.hid hgp
  rw [← hgp] at HJ0 ⊢
  have q0 := HJ0.out.tab.cells.1
  have q1 := HJ0.out.cp.has hok
  have q2 := HJ0.out.cp.rd hok
  clear hgp
  go_wp2_with fail
  refine (HM.out w0 (by have := HB0.out; exact this)).mono ?_
  rintro e w1 ⟨rfl, hb1⟩
  rw [HMY.out]
  have HJ1 := Lib.hid (HJ0.out.below hb1)
  clear hb1 q0 q1 q2 HJ0 HB0 HM
  go_upto_region 3 with fail
  refine wp_region_held_drew (S := fun w' => S3 F gp (.slice a L.length c) p v w') (by kernel_rfl) (HJ1.out.s3 hok (drew_below w1)) (fun hHeld => ?_)
  refine' wpAnyH_take (i := 0) (v := _) rfl (by kernel_rfl) (by kernel_rfl) (by kernel_rfl) (fun _ _ _ h => h) (Or.inl ⟨by rfl, ?hy1⟩) hHeld ?rest1
  case hy1 => (intro w' hS; obtain ⟨s1, s2, s3⟩ := hS; (try simp only [List.getElem_toArray, List.getElem_cons_zero, List.getElem_cons_succ]); go_simp; try with_reducible rfl)
  try simp only [List.getElem_toArray, List.getElem_cons_zero, List.getElem_cons_succ, Act.put, List.setIfInBounds_toArray, List.set_cons_zero, List.set_cons_succ]
  refine' wpAnyH_take (i := 1) (v := _) rfl (by kernel_rfl) (by kernel_rfl) (by kernel_rfl) (fun _ _ _ h => h) (Or.inl ⟨by rfl, ?hy2⟩) hHeld ?rest2
  case hy2 => (intro w' hS; obtain ⟨s1, s2, s3⟩ := hS; (try simp only [List.getElem_toArray, List.getElem_cons_zero, List.getElem_cons_succ]); go_simp; try with_reducible rfl)
  try simp only [List.getElem_toArray, List.getElem_cons_zero, List.getElem_cons_succ, Act.put, List.setIfInBounds_toArray, List.set_cons_zero, List.set_cons_succ]
  refine' wpAnyH_take (i := 2) (v := _) rfl (by kernel_rfl) (by kernel_rfl) (by kernel_rfl) (fun _ _ _ h => h) (Or.inl ⟨by rfl, ?hy3⟩) hHeld ?rest3
  case hy3 => (intro w' hS; obtain ⟨s1, s2, s3⟩ := hS; (try simp only [List.getElem_toArray, List.getElem_cons_zero, List.getElem_cons_succ]); go_simp; try with_reducible rfl)
  try simp only [List.getElem_toArray, List.getElem_cons_zero, List.getElem_cons_succ, Act.put, List.setIfInBounds_toArray, List.set_cons_zero, List.set_cons_succ]
  refine' wpAnyH_take (i := 3) (v := _) rfl (by kernel_rfl) (by kernel_rfl) (by kernel_rfl) (fun _ _ _ h => h) (Or.inl ⟨by rfl, ?hy4⟩) hHeld ?rest4
  case hy4 => (intro w' hS; obtain ⟨s1, s2, s3⟩ := hS; (try simp only [List.getElem_toArray, List.getElem_cons_zero, List.getElem_cons_succ]); go_simp; try with_reducible rfl)
  try simp only [List.getElem_toArray, List.getElem_cons_zero, List.getElem_cons_succ, Act.put, List.setIfInBounds_toArray, List.set_cons_zero, List.set_cons_succ]
  refine' wpAnyH_take (i := 4) (v := _) rfl (by kernel_rfl) (by kernel_rfl) (by kernel_rfl) (fun _ _ _ h => h) (Or.inl ⟨by rfl, ?hy5⟩) hHeld ?rest5
  case hy5 => (intro w' hS; obtain ⟨s1, s2, s3⟩ := hS; (try simp only [List.getElem_toArray, List.getElem_cons_zero, List.getElem_cons_succ]); go_simp; try with_reducible rfl)
  try simp only [List.getElem_toArray, List.getElem_cons_zero, List.getElem_cons_succ, Act.put, List.setIfInBounds_toArray, List.set_cons_zero, List.set_cons_succ]
  refine wpAnyH_ready (rs := [5]) (by kernel_rfl) (by simp) ?_
  refine (AllReadyH.cons rfl (fun K hK => ?_) AllReadyH.nil)
  obtain ⟨s1, s2, s3⟩ := hHeld
  go_simp
  refine (HPLC.out _ _ (HJ1.out.tab.below (drew_below w1))).mono ?_
  rintro e w3 ⟨rfl, hb3⟩
  have HB3 : Hid (Below w1.heap.size w1 w3) := Lib.hid ((drew_below w1).then hb3)
  clear hb3 s1 s2 s3
  go_wp2_with fail
  refine hK.out _ _ (HJ1.out.s3 hok HB3.out) (fun hHeld => ?_)
  clear hK K
  try simp only [List.getElem_toArray, List.getElem_cons_zero, List.getElem_cons_succ, Act.put, List.setIfInBounds_toArray, List.set_cons_zero, List.set_cons_succ]
  refine' wpAnyH_take (i := 6) (v := _) rfl (by kernel_rfl) (by kernel_rfl) (by kernel_rfl) (fun _ _ _ h => h) (Or.inl ⟨by rfl, ?hy7⟩) hHeld ?rest7
  case hy7 => (intro w' hS; obtain ⟨s1, s2, s3⟩ := hS; (try simp only [List.getElem_toArray, List.getElem_cons_zero, List.getElem_cons_succ]); go_simp; try with_reducible rfl)
  try simp only [List.getElem_toArray, List.getElem_cons_zero, List.getElem_cons_succ, Act.put, List.setIfInBounds_toArray, List.set_cons_zero, List.set_cons_succ]
  refine wpAnyH_done (by kernel_rfl) ?_ _
  have HJ3 := Lib.hid (HJ1.out.below HB3.out)
  clear hHeld HJ1 HB3 HPLC
  go_upto_if 31 with fail
  go_cut [] (fun wx => Hid (RJ w M F many most p v gp wx (.slice a L.length c) L ∧ ∀ (i : Nat) x, R = (i : Int) → L[i]? = some x → x.S.any (sameB p) = false ∧ x.S.any (clashB p) = false))
  case first =>
    rcases hfind : findPk (L.map RkM.T) p.nm with _ | i
    · obtain rfl : R = -1 := HR.out.trans (rix_none hfind)
      clear hfind
      go_wp2_with fail
      go_meet
      case rel => exact Lib.hid ⟨HJ3.out, fun i x h => by omega⟩
    · obtain ⟨hRi, x, hx, hxn⟩ := rix_some hfind
      obtain rfl : R = (i : Int) := HR.out.trans hRi
      obtain ⟨gl, cl, m, gx, cx, hlv, hl1, hl2, hil, hxv, hMgl, hPX⟩ := pkx_of HJ3.out.tab HO.out HSM.out hx
      cases hlv
      have HPX := Lib.hid hPX
      have HST : Hid (takeS many most (L.map RkM.T) p = stepIn (L.map RkM.T) i p.nm x.S p) := Lib.hid (rtake_some hx hfind (by have := HMN.out; omega) HMY.out)
      have HX := Lib.hid hx
      have hcap1 := hPX.cap.1
      have hcap2 := hPX.cap.2
      have hsmall := hPX.small
      have hi0 : (0 : Int) ≤ (i : Int) := by omega
      have hi1 : (i : Int) < (L.length : Int) := by omega
      have d31 : decide ((0 : Int) ≤ (i : Int)) = true := decide_eq_true hi0
      rw [d31]
      clear d31
      clear hfind hx hxn hRi hxv hPX hMgl
      go_wp2_with fail
      go_loopw [8] (fun s8 wr => ∃ k : Nat, s8 = .int .i64 k ∧ k ≤ m ∧ Hid (∀ j z, x.ps[j]? = some z → j < k → sameB p z.1 = false) ∧ Hid (Below w3.heap.size w3 wr)) (fun s8 _ => m - (intOf s8).toNat)
      case atStart => exact ⟨0, rfl, Nat.zero_le _, fun j z _ h => absurd h (by omega), Below.refl _ _⟩
      case round =>
        obtain ⟨k, rfl, hk, HNS, HBR⟩ := hrel
        have HJr := Lib.hid (HJ3.out.below HBR.out)
        have HPr := Lib.hid (HPX.out.below HBR.out)
        have q4 := HJr.out.tab.cells.2.2.1
        have q5 := HPr.out.cell
        by_cases hlt : k < m
        · as_aux_lemma =>
            obtain ⟨z, hz⟩ : ∃ z, x.ps[k]? = some z := ⟨x.ps[k]'(by rw [← HPX.out.len]; exact hlt), by rw [List.getElem?_eq_getElem]⟩
            obtain ⟨hp1, hokz, hmz, hoz⟩ := HPr.out.pts k z hz
            have g1 := hp1.has hokz
            have g2 := hp1.rd hokz
            have hz1 : z.2.oneCell' = true := own_one hoz
            have HZ := Lib.hid hz
            have HOZ := Lib.hid hoz
            clear hp1 hz hoz hmz
            go_upto_region 8 with fail
            obtain ⟨wo, rfl⟩ : ∃ wo : World, wo = wr := ⟨_, rfl⟩
            go_cut [9] (fun s9 wx => ∃ q, s9 = .pointer (some ⟨q, 0, none⟩) ∧ Hid (Box95 wo z q wx))
            case first =>
              go_wp2_with fail
              go_meet
              case rel => exact ⟨_, rfl, box95_new wo z hokz rfl⟩
            case rest =>
              obtain ⟨q, rfl, HBX⟩ := hcut
              obtain ⟨wq, rfl⟩ : ∃ wq : World, wq = wc := ⟨_, rfl⟩
              have HJq := Lib.hid (HJr.out.below HBX.out.2)
              obtain ⟨d0, d1, d2⟩ := HBX.out.1.cells hokz
              obtain ⟨e0, e1, e2⟩ := HJq.out.cp.cells hok
              simp only [Nat.zero_add] at d0 d1 d2 e0 e1 e2
              have k1 := conv_bs (Own.below HOZ.out HBX.out.2).bs
              have k2 := conv_bs (HV.out.only HJq.out.only HVM.out)
              obtain ⟨S, hS⟩ : ∃ S, S = mkS z.1.bs := ⟨_, rfl⟩
              obtain ⟨T2, hT2⟩ : ∃ T, T = mkS p.bs := ⟨_, rfl⟩
              rw [← hS] at k1
              rw [← hT2] at k2
              have HST2 : Hid ((S.toList == T2.toList) = decide (z.1.bs = p.bs)) := Lib.hid (by rw [hS, hT2, mkS_toList, mkS_toList, Bool.eq_iff_iff]; simp)
              clear hS hT2 g1 g2 q4 q5
              by_cases b1 : z.1.pos = p.pos
              · have c1 : (z.1.pos == p.pos) = true := by rw [beq_iff_eq]; exact b1
                by_cases b2 : z.1.more = p.more
                · have c2 : (z.1.more == p.more) = true := by rw [beq_iff_eq]; exact b2
                  by_cases b3 : z.1.bs = p.bs
                  · have c3 : (S.toList == T2.toList) = true := by rw [HST2.out]; exact decide_eq_true b3
                    have HSA : Hid (sameB p z.1 = true) := Lib.hid (decide_eq_true ⟨b1.symm, b2.symm, b3.symm⟩)
                    clear b1 b2 b3
                    go_wp2_with fail
                    go_ret3
                    rw [HQ.out]
                    exact rj_end HJq.out (by rw [HST.out]; unfold stepIn; rw [if_pos (any_yes HPX.out.sim (List.mem_of_getElem? HZ.out) HSA.out)]) rfl (Below.refl _ _)
                  · have c3 : (S.toList == T2.toList) = false := by rw [HST2.out]; exact decide_eq_false b3
                    have HSA : Hid (sameB p z.1 = false) := Lib.hid (decide_eq_false (fun h => b3 h.2.2.symm))
                    clear b1 b2 b3
                    go_wp2_with fail
                    go_roundw
                    case rel => exact ⟨k + 1, by go_num, by omega, fun j y hy hj => by
                      by_cases hjk : j = k
                      · subst hjk
                        rw [HZ.out] at hy; cases hy; exact HSA.out
                      · exact HNS.out j y hy (by omega), HBR.out.then HBX.out.2⟩
                    case measure => simp [intOf]; omega
                · have c2 : (z.1.more == p.more) = false := by rw [beq_eq_false_iff_ne]; exact b2
                  have HSA : Hid (sameB p z.1 = false) := Lib.hid (decide_eq_false (fun h => b2 h.2.1.symm))
                  clear b1 b2
                  go_wp2_with fail
                  go_roundw
                  case rel => exact ⟨k + 1, by go_num, by omega, fun j y hy hj => by
                    by_cases hjk : j = k
                    · subst hjk
                      rw [HZ.out] at hy; cases hy; exact HSA.out
                    · exact HNS.out j y hy (by omega), HBR.out.then HBX.out.2⟩
                  case measure => simp [intOf]; omega
              · have c1 : (z.1.pos == p.pos) = false := by rw [beq_eq_false_iff_ne]; exact b1
                have HSA : Hid (sameB p z.1 = false) := Lib.hid (decide_eq_false (fun h => b1 h.1.symm))
                clear b1
                go_wp2_with fail
                go_roundw
                case rel => exact ⟨k + 1, by go_num, by omega, fun j y hy hj => by
                  by_cases hjk : j = k
                  · subst hjk
                    rw [HZ.out] at hy; cases hy; exact HSA.out
                  · exact HNS.out j y hy (by omega), HBR.out.then HBX.out.2⟩
                case measure => simp [intOf]; omega
        · obtain rfl : k = m := by omega
          have HNO1 : Hid (x.S.any (sameB p) = false) := Lib.hid (any_no HPX.out.sim (fun j z hz => HNS.out j z hz (by rw [HPX.out.len]; exact (List.getElem?_eq_some_iff.1 hz).1)))
          obtain ⟨wm, rfl⟩ : ∃ wm : World, wm = wr := ⟨_, rfl⟩
          clear HNS
          go_wp2_with fail
          go_loopw [10] (fun s10 wr => ∃ j : Nat, s10 = .int .i64 j ∧ j ≤ k ∧ Hid (∀ (j' : Nat) (z : PartD × Value), x.ps[j']? = some z → j' < j → clashB p z.1 = false) ∧ Hid (Below wm.heap.size wm wr)) (fun s10 _ => k - (intOf s10).toNat)
          case atStart => exact ⟨0, rfl, Nat.zero_le _, fun j z _ h => absurd h (by omega), Below.refl _ _⟩
          case round =>
            obtain ⟨j, rfl, hj, HNC, HBR2⟩ := hrel
            have HJs := Lib.hid (HJr.out.below HBR2.out)
            have HPs := Lib.hid (HPr.out.below HBR2.out)
            clear q4 q5
            have q4 := HJs.out.tab.cells.2.2.1
            have q5 := HPs.out.cell
            by_cases hlt2 : j < k
            · as_aux_lemma =>
                obtain ⟨z, hz⟩ : ∃ z, x.ps[j]? = some z := ⟨x.ps[j]'(by rw [← HPX.out.len]; exact hlt2), by rw [List.getElem?_eq_getElem]⟩
                obtain ⟨hp1, hokz, hmz, hoz⟩ := HPs.out.pts j z hz
                obtain ⟨r, hr⟩ : ∃ r, r = clashB p z.1 := ⟨_, rfl⟩
                have HRC := Lib.hid hr
                have HS14 : Hid (∀ w', Below wr.heap.size wr w' → S14 F gp gl i gx (j * 39) (.slice (some ⟨gl, 0, none⟩) L.length c) (.slice (some ⟨gx, 0, none⟩) k cx) p z.1 v z.2 w') := Lib.hid (fun w' hb => ⟨(HJs.out.below hb).tab.cells.2.2.1, (HPs.out.below hb).cell, (HJs.out.below hb).cp.has hok, (HJs.out.below hb).cp.rd hok, (hp1.below hb).has hokz, (hp1.below hb).rd hokz⟩)
                have HCL : Hid (∀ w', Below wr.heap.size wr w' → Calls Try.prog 81 #[.agg (partA p v), .agg (partA z.1 z.2)] w' (ClRet w' r)) := Lib.hid (fun w' hb => by
                  rw [hr]
                  have m1 := may_spec HMY.out
                  have m2 := may_spec hmz
                  exact rclash_any w' p z.1 v z.2 hok hokz (HV.out.only (HJs.out.below hb).only HVM.out) (Own.below hoz hb).bs (may_fits HMY.out hmost).1 (may_fits hmz hmost).1 m1.2.1 m2.2.1 m1.1 m2.1)
                have HZ := Lib.hid hz
                clear hp1 hz hoz hmz hr
                go_upto_region 14 with fail
                refine wp_region_held_drew (S := fun w' => S14 F gp gl i gx (j * 39) (.slice (some ⟨gl, 0, none⟩) L.length c) (.slice (some ⟨gx, 0, none⟩) k cx) p z.1 v z.2 w') (by kernel_rfl) (HS14.out _ (drew_below wr)) (fun hHeld => ?_)
                refine' wpAnyH_take (i := 0) (v := _) rfl (by kernel_rfl) (by kernel_rfl) (by kernel_rfl) (fun _ _ _ h => h) (Or.inl ⟨by rfl, ?hy9⟩) hHeld ?rest9
                case hy9 => (intro w' hS; obtain ⟨s1, s2, s3, s4, s5, s6⟩ := hS; (try simp only [List.getElem_toArray, List.getElem_cons_zero, List.getElem_cons_succ]); go_simp; try with_reducible rfl)
                try simp only [List.getElem_toArray, List.getElem_cons_zero, List.getElem_cons_succ, Act.put, List.setIfInBounds_toArray, List.set_cons_zero, List.set_cons_succ]
                refine' wpAnyH_take (i := 1) (v := _) rfl (by kernel_rfl) (by kernel_rfl) (by kernel_rfl) (fun _ _ _ h => h) (Or.inl ⟨by rfl, ?hy10⟩) hHeld ?rest10
                case hy10 => (intro w' hS; obtain ⟨s1, s2, s3, s4, s5, s6⟩ := hS; (try simp only [List.getElem_toArray, List.getElem_cons_zero, List.getElem_cons_succ]); go_simp; try with_reducible rfl)
                try simp only [List.getElem_toArray, List.getElem_cons_zero, List.getElem_cons_succ, Act.put, List.setIfInBounds_toArray, List.set_cons_zero, List.set_cons_succ]
                refine' wpAnyH_take (i := 2) (v := _) rfl (by kernel_rfl) (by kernel_rfl) (by kernel_rfl) (fun _ _ _ h => h) (Or.inl ⟨by rfl, ?hy11⟩) hHeld ?rest11
                case hy11 => (intro w' hS; obtain ⟨s1, s2, s3, s4, s5, s6⟩ := hS; (try simp only [List.getElem_toArray, List.getElem_cons_zero, List.getElem_cons_succ]); go_simp; try with_reducible rfl)
                try simp only [List.getElem_toArray, List.getElem_cons_zero, List.getElem_cons_succ, Act.put, List.setIfInBounds_toArray, List.set_cons_zero, List.set_cons_succ]
                refine' wpAnyH_take (i := 3) (v := _) rfl (by kernel_rfl) (by kernel_rfl) (by kernel_rfl) (fun _ _ _ h => h) (Or.inl ⟨by rfl, ?hy12⟩) hHeld ?rest12
                case hy12 => (intro w' hS; obtain ⟨s1, s2, s3, s4, s5, s6⟩ := hS; (try simp only [List.getElem_toArray, List.getElem_cons_zero, List.getElem_cons_succ]); go_simp; try with_reducible rfl)
                try simp only [List.getElem_toArray, List.getElem_cons_zero, List.getElem_cons_succ, Act.put, List.setIfInBounds_toArray, List.set_cons_zero, List.set_cons_succ]
                refine' wpAnyH_take (i := 4) (v := _) rfl (by kernel_rfl) (by kernel_rfl) (by kernel_rfl) (fun _ _ _ h => h) (Or.inl ⟨by rfl, ?hy13⟩) hHeld ?rest13
                case hy13 => (intro w' hS; obtain ⟨s1, s2, s3, s4, s5, s6⟩ := hS; (try simp only [List.getElem_toArray, List.getElem_cons_zero, List.getElem_cons_succ]); go_simp; try with_reducible rfl)
                try simp only [List.getElem_toArray, List.getElem_cons_zero, List.getElem_cons_succ, Act.put, List.setIfInBounds_toArray, List.set_cons_zero, List.set_cons_succ]
                refine' wpAnyH_take (i := 5) (v := _) rfl (by kernel_rfl) (by kernel_rfl) (by kernel_rfl) (fun _ _ _ h => h) (Or.inl ⟨by rfl, ?hy14⟩) hHeld ?rest14
                case hy14 => (intro w' hS; obtain ⟨s1, s2, s3, s4, s5, s6⟩ := hS; (try simp only [List.getElem_toArray, List.getElem_cons_zero, List.getElem_cons_succ]); go_simp; try with_reducible rfl)
                try simp only [List.getElem_toArray, List.getElem_cons_zero, List.getElem_cons_succ, Act.put, List.setIfInBounds_toArray, List.set_cons_zero, List.set_cons_succ]
                refine' wpAnyH_take (i := 6) (v := _) rfl (by kernel_rfl) (by kernel_rfl) (by kernel_rfl) (fun _ _ _ h => h) (Or.inl ⟨by rfl, ?hy15⟩) hHeld ?rest15
                case hy15 => (intro w' hS; obtain ⟨s1, s2, s3, s4, s5, s6⟩ := hS; (try simp only [List.getElem_toArray, List.getElem_cons_zero, List.getElem_cons_succ]); go_simp; try with_reducible rfl)
                try simp only [List.getElem_toArray, List.getElem_cons_zero, List.getElem_cons_succ, Act.put, List.setIfInBounds_toArray, List.set_cons_zero, List.set_cons_succ]
                refine' wpAnyH_take (i := 7) (v := _) rfl (by kernel_rfl) (by kernel_rfl) (by kernel_rfl) (fun _ _ _ h => h) (Or.inl ⟨by rfl, ?hy16⟩) hHeld ?rest16
                case hy16 => (intro w' hS; obtain ⟨s1, s2, s3, s4, s5, s6⟩ := hS; (try simp only [List.getElem_toArray, List.getElem_cons_zero, List.getElem_cons_succ]); go_simp; try with_reducible rfl)
                try simp only [List.getElem_toArray, List.getElem_cons_zero, List.getElem_cons_succ, Act.put, List.setIfInBounds_toArray, List.set_cons_zero, List.set_cons_succ]
                refine' wpAnyH_take (i := 8) (v := _) rfl (by kernel_rfl) (by kernel_rfl) (by kernel_rfl) (fun _ _ _ h => h) (Or.inl ⟨by rfl, ?hy17⟩) hHeld ?rest17
                case hy17 => (intro w' hS; obtain ⟨s1, s2, s3, s4, s5, s6⟩ := hS; (try simp only [List.getElem_toArray, List.getElem_cons_zero, List.getElem_cons_succ]); go_simp; try with_reducible rfl)
                try simp only [List.getElem_toArray, List.getElem_cons_zero, List.getElem_cons_succ, Act.put, List.setIfInBounds_toArray, List.set_cons_zero, List.set_cons_succ]
                refine' wpAnyH_take (i := 9) (v := _) rfl (by kernel_rfl) (by kernel_rfl) (by kernel_rfl) (fun _ _ _ h => h) (Or.inl ⟨by rfl, ?hy18⟩) hHeld ?rest18
                case hy18 => (intro w' hS; obtain ⟨s1, s2, s3, s4, s5, s6⟩ := hS; (try simp only [List.getElem_toArray, List.getElem_cons_zero, List.getElem_cons_succ]); go_simp; try with_reducible rfl)
                try simp only [List.getElem_toArray, List.getElem_cons_zero, List.getElem_cons_succ, Act.put, List.setIfInBounds_toArray, List.set_cons_zero, List.set_cons_succ]
                refine' wpAnyH_take (i := 10) (v := _) rfl (by kernel_rfl) (by kernel_rfl) (by kernel_rfl) (fun _ _ _ h => h) (Or.inl ⟨by rfl, ?hy19⟩) hHeld ?rest19
                case hy19 => (intro w' hS; obtain ⟨s1, s2, s3, s4, s5, s6⟩ := hS; (try simp only [List.getElem_toArray, List.getElem_cons_zero, List.getElem_cons_succ]); go_simp; try with_reducible rfl)
                try simp only [List.getElem_toArray, List.getElem_cons_zero, List.getElem_cons_succ, Act.put, List.setIfInBounds_toArray, List.set_cons_zero, List.set_cons_succ]
                refine wpAnyH_ready (rs := [11]) (by kernel_rfl) (by simp) ?_
                refine (AllReadyH.cons rfl (fun K hK => ?_) AllReadyH.nil)
                obtain ⟨s1, s2, s3, s4, s5, s6⟩ := hHeld
                go_simp
                refine (HCL.out _ (drew_below wr)).mono ?_
                rintro e w5 ⟨rfl, hb5⟩
                have HB5 : Hid (Below wr.heap.size wr w5) := Lib.hid ((drew_below wr).then hb5)
                clear hb5 s1 s2 s3 s4 s5 s6
                go_wp2_with fail
                refine hK.out _ _ (HS14.out _ HB5.out) (fun hHeld => ?_)
                clear hK K
                try simp only [List.getElem_toArray, List.getElem_cons_zero, List.getElem_cons_succ, Act.put, List.setIfInBounds_toArray, List.set_cons_zero, List.set_cons_succ]
                refine wpAnyH_done (by kernel_rfl) ?_ _
                clear hHeld q4 q5 HCL HS14
                have HJ5 := Lib.hid (HJs.out.below HB5.out)
                rcases r with _ | _
                · go_wp2_with fail
                  go_roundw
                  case rel => exact ⟨j + 1, by go_num, by omega, fun j' y hy hj' => by
                    by_cases hjk : j' = j
                    · subst hjk
                      rw [HZ.out] at hy; cases hy; exact HRC.out.symm
                    · exact HNC.out j' y hy (by omega), HBR2.out.then HB5.out⟩
                  case measure => simp [intOf]; omega
                · have q4 := HJ5.out.tab.cells.2.2.1
                  have HLS := Lib.hid (HJ5.out.tab.less (by have := HLEN.out; omega) i)
                  go_wp2_with fail
                  refine HLS.out.mono ?_
                  rintro e w6 ⟨⟨lv', rfl, how⟩, hb6⟩
                  obtain ⟨a', c', rfl, _, _⟩ := ownsRow_shape how
                  have HOW := Lib.hid how
                  have HB6 := Lib.hid hb6
                  obtain ⟨y1, y2⟩ := HJ5.out.tab.fcell hb6
                  clear how hb6 q4
                  go_wp2_with fail
                  go_ret3
                  rw [HQ.out]
                  exact rgone_ret HJ5.out.tab (mx_old HJ5.out.ord.1) HJ5.out.only HJ5.out.inF i HOW.out HB6.out (by rw [HST.out]; unfold stepIn; rw [if_neg (by rw [HNO1.out]; simp), if_pos (any_yes HPX.out.sim (List.mem_of_getElem? HZ.out) HRC.out.symm)]) (own_nil _ _) (fun k hk => by cases hk) rfl
            · obtain rfl : j = k := by omega
              go_wp2_with fail
              go_meet
              case rel => exact Lib.hid ⟨HJs.out, fun i' x' h hx' => by
                have e : i' = i := by omega
                subst e
                rw [HX.out] at hx'; cases hx'
                exact ⟨HNO1.out, any_no HPX.out.sim (fun j' z hz => HNC.out j' z hz (by rw [HPX.out.len]; exact (List.getElem?_eq_some_iff.1 hz).1))⟩⟩
  case rest =>
    have HJ := Lib.hid hcut.out.1
    have HSC := Lib.hid hcut.out.2
    clear hcut HJ3
    have HVW : Hid (Bs wc v p.bs) := Lib.hid (HV.out.only HJ.out.only HVM.out)
    obtain ⟨wb, rfl⟩ : ∃ wb : World, wb = wc := ⟨_, rfl⟩
    have q3 := (HJ.out.cp.cells hok).2.2
    rw [Nat.zero_add] at q3
    have q3b := below_cells (below_alloc wb (.cells #[] 5)) _ _ q3
    obtain ⟨av, cv, rfl, hv1, hv2, _⟩ := HV.out
    go_upto_region 18 with (at_builtin; go_loud (refine wpList_app' rfl _ _ rfl wb.heap.size _ [] rfl (own_lit wb [] #[] wb.heap.size rfl (Nat.le_refl _) (by decide)) _ p.bs rfl (HVW.out.alloc _) (by have := HPL.out; simp; omega) (by simp) ?_; intro Y2 a2 c2 w8 E2 O2 L2 N2 hc2; have HB8 : Hid (Below wb.heap.size wb w8) := Lib.hid ((below_alloc wb _).trans L2.out); have c8 := below_cells HB8.out _ _ q3; have z8 := (HJ.out.below HB8.out).fp))
    have HJ10 := Lib.hid ((HJ.out.below HB8.out).setB hok (.slice a2 Y2.length c2))
    have HO10 : Hid (OwnP M gp p (.slice a2 Y2.length c2) (w8.setCell ⟨gp, 38, none⟩ (.slice a2 Y2.length c2))) := Lib.hid (by
      have e : Y2 = p.bs := by rw [E2.out]; simp
      have := rj_own HJ.out HB8.out O2.out
      unfold OwnP
      rw [← e]; exact this)
    obtain ⟨w10, hw10⟩ : ∃ W, W = w8.setCell ⟨gp, 38, none⟩ (.slice a2 Y2.length c2) := ⟨_, rfl⟩
    rw [← hw10] at HJ10 HO10 ⊢
    obtain ⟨v2, hv2e⟩ : ∃ v2, v2 = Value.slice a2 Y2.length c2 := ⟨_, rfl⟩
    rw [← hv2e] at HJ10 HO10
    have hv21 : v2.oneCell' = true := by rw [hv2e]; rfl
    clear hw10 hv2e q3 q3b c8 z8 HJ HVW O2 L2 E2 N2 hc2 HB8
    go_upto_if 114 with fail
    go_cut [7] (fun s7 wx => ∃ i : Nat, s7 = .int .i64 i ∧ i < 1048577 ∧ Hid (RJ3e w M F many most (L.map RkM.T) p gp i wx))
    case first =>
      rcases hfind : findPk (L.map RkM.T) p.nm with _ | i
      · as_aux_lemma =>
          obtain rfl : R = -1 := HR.out.trans (rix_none hfind)
          have HST0 : Hid (takeS many most (L.map RkM.T) p = stepIn (roomed many (L.map RkM.T) ++ [(p.nm, [])]) (roomed many (L.map RkM.T)).length p.nm [] p) := Lib.hid (rtake_none (d := 0) hfind (by have := HMN.out; omega) HMY.out)
          have HVS := Lib.hid (HJ10.out.tab.vsome HO.out)
          have q4 := HJ10.out.tab.cells.2.2.1
          have q5 := HJ10.out.tab.cells.1
          clear hfind
          go_upto_region 19 with fail
          go_quiet (fail)
          obtain ⟨W2, hW2, hb2⟩ : ∃ W2, W2 = w10.drewN nq ∧ Below w10.heap.size w10 W2 := ⟨_, rfl, below_drewN _ _⟩
          rw [← hW2]
          have HJ11 := Lib.hid (HJ10.out.below hb2)
          have HO11 := Lib.hid (HO10.out.below hb2)
          clear hW2 hb2 q4 q5
          go_upto_if 124 with fail
          go_cut [] (fun wx => Hid (∃ lv1 L1, RJ w M F many most p v2 gp wx lv1 L1 ∧ OwnP M gp p v2 wx ∧ L1.map RkM.T = roomed many (L.map RkM.T) ∧ L1.length ≤ 1048576 ∧ ∀ x ∈ L1, x.v.ownBlock ≠ none))
          case first =>
            by_cases hfull : many ≤ (L.length : Int)
            · have q4 := HJ11.out.tab.cells.2.2.1
              have hless := HJ11.out.tab.less (by have := HLEN.out; omega) 0
              rw [show ((0 : Nat) : Int) = 0 from rfl] at hless
              have HLS := Lib.hid hless
              clear hless
              go_wp2_with fail
              refine HLS.out.mono ?_
              rintro e w6 ⟨⟨lv', rfl, how⟩, hb6⟩
              obtain ⟨m', hm'⟩ : ∃ m', m' = (L.eraseIdx 0).length := ⟨_, rfl⟩
              obtain ⟨a', c', rfl, _, _⟩ := ownsRow_shape how
              have HOW := Lib.hid how
              have HB6 := Lib.hid hb6
              obtain ⟨y1, y2⟩ := HJ11.out.tab.fcell hb6
              have HRG := Lib.hid (rj_gone HJ11.out HO11.out 0 HOW.out HB6.out)
              rw [← hm'] at HRG ⊢
              clear how hb6 q4 hm' HOW
              go_wp2_with fail
              go_meet
              case rel => exact Lib.hid ⟨_, _, HRG.out.1, HRG.out.2, by unfold roomed; rw [if_pos (by rw [List.length_map]; exact hfull), map_erase], Nat.le_trans (List.length_eraseIdx_le _ _) HLEN.out, fun x hx => HVS.out x (List.mem_of_mem_eraseIdx hx)⟩
            · go_wp2_with fail
              go_meet
              case rel => exact Lib.hid ⟨_, _, HJ11.out, HO11.out, (if_neg (by rw [List.length_map]; omega)).symm, HLEN.out, HVS.out⟩
          case rest =>
            obtain ⟨lv1, L1, J, O, hL1, hn1, hvs1⟩ := hcut.out
            have HJ12 := Lib.hid J
            have HO12 := Lib.hid O
            have HL1 := Lib.hid hL1
            have HVS1 := Lib.hid hvs1
            obtain ⟨a1, c1, rfl, hl1, hc1⟩ := J.tab.lvshape
            have q4 := J.tab.cells.2.2.1
            obtain ⟨w12, rfl⟩ : ∃ w12 : World, w12 = wc := ⟨_, rfl⟩
            obtain ⟨v', w', hrun, hown, hgr, hob⟩ := rapp_run J.tab.own hn1 p v2
            obtain ⟨a2', c2', rfl, _, _⟩ := ownsRow_shape hown
            have HRUN := Lib.hid hrun
            have HOWN := Lib.hid hown
            have HGR := Lib.hid hgr
            have HOB := Lib.hid hob
            have HBB : Hid (Below w12.heap.size w12 ((w12.alloc (.cells (partA p v2) 95)).alloc (.cells #[.slice (some ⟨w12.heap.size, 0, none⟩) 1 1] 137))) := Lib.hid (((Below.refl _ _).alloc (Nat.le_refl _) _).alloc (by simp) _)
            clear J O hL1 hvs1 hrun hown hgr hob hcut
            go_upto_region 22 with fail
            clear q4
            refine wp_region_held_drew (S := fun w' => S22 gp p v2 w') (by kernel_rfl) (HJ12.out.s22 hok (drew_below w12)) (fun hHeld => ?_)
            refine' wpAnyH_take (i := 0) (v := _) rfl (by kernel_rfl) (by kernel_rfl) (by kernel_rfl) (fun _ _ _ h => h) (Or.inl ⟨by rfl, ?hy22⟩) hHeld ?rest22
            case hy22 => (intro w' hS; obtain ⟨s1, s2⟩ := hS; (try simp only [List.getElem_toArray, List.getElem_cons_zero, List.getElem_cons_succ]); go_simp; try with_reducible rfl)
            try simp only [List.getElem_toArray, List.getElem_cons_zero, List.getElem_cons_succ, Act.put, List.setIfInBounds_toArray, List.set_cons_zero, List.set_cons_succ]
            refine' wpAnyH_take (i := 1) (v := _) rfl (by kernel_rfl) (by kernel_rfl) (by kernel_rfl) (fun _ _ _ h => h) (Or.inl ⟨by rfl, ?hy23⟩) hHeld ?rest23
            case hy23 => (intro w' hS; obtain ⟨s1, s2⟩ := hS; (try simp only [List.getElem_toArray, List.getElem_cons_zero, List.getElem_cons_succ]); go_simp; try with_reducible rfl)
            try simp only [List.getElem_toArray, List.getElem_cons_zero, List.getElem_cons_succ, Act.put, List.setIfInBounds_toArray, List.set_cons_zero, List.set_cons_succ]
            refine' wpAnyH_take (i := 2) (v := _) rfl (by kernel_rfl) (by kernel_rfl) (by kernel_rfl) (fun _ _ _ h => h) (Or.inl ⟨by rfl, ?hy24⟩) hHeld ?rest24
            case hy24 => (intro w' hS; obtain ⟨s1, s2⟩ := hS; (try simp only [List.getElem_toArray, List.getElem_cons_zero, List.getElem_cons_succ]); go_simp; try with_reducible rfl)
            try simp only [List.getElem_toArray, List.getElem_cons_zero, List.getElem_cons_succ, Act.put, List.setIfInBounds_toArray, List.set_cons_zero, List.set_cons_succ]
            refine' wpAnyH_take (i := 3) (v := _) rfl (by kernel_rfl) (by kernel_rfl) (by kernel_rfl) (fun _ _ _ h => h) (Or.inl ⟨by rfl, ?hy25⟩) hHeld ?rest25
            case hy25 => (intro w' hS; obtain ⟨s1, s2⟩ := hS; (try simp only [List.getElem_toArray, List.getElem_cons_zero, List.getElem_cons_succ]); go_simp; try with_reducible rfl)
            try simp only [List.getElem_toArray, List.getElem_cons_zero, List.getElem_cons_succ, Act.put, List.setIfInBounds_toArray, List.set_cons_zero, List.set_cons_succ]
            refine' wpAnyH_take (i := 5) (v := _) rfl (by kernel_rfl) (by kernel_rfl) (by kernel_rfl) (fun _ _ _ h => h) (Or.inl ⟨by rfl, ?hy26⟩) hHeld ?rest26
            case hy26 => (intro w' hS; obtain ⟨s1, s2⟩ := hS; (try simp only [List.getElem_toArray, List.getElem_cons_zero, List.getElem_cons_succ]); go_simp; try with_reducible rfl)
            try simp only [List.getElem_toArray, List.getElem_cons_zero, List.getElem_cons_succ, Act.put, List.setIfInBounds_toArray, List.set_cons_zero, List.set_cons_succ]
            refine wpAnyH_ready (rs := [4, 6]) (by kernel_rfl) (by simp) ?_
            refine (AllReadyH.cons rfl (fun K hK => ?_) (AllReadyH.cons rfl (fun K hK => ?_) AllReadyH.nil))
            · obtain ⟨s1, s2⟩ := hHeld
              have hF := (HJ12.out.tab.below (drew_below w12)).cells.2.2.1
              go_simp
              clear hF s1 s2
              go_wp2_with fail
              refine hK.out _ _ (HJ12.out.s22 hok (drew_below w12)) (fun hHeld => ?_)
              clear hK K
              try simp only [List.getElem_toArray, List.getElem_cons_zero, List.getElem_cons_succ, Act.put, List.setIfInBounds_toArray, List.set_cons_zero, List.set_cons_succ]
              refine wpAnyH_ready (rs := [6]) (by kernel_rfl) (by simp) ?_
              refine (AllReadyH.cons rfl (fun K hK => ?_) AllReadyH.nil)
              obtain ⟨s1, s2⟩ := hHeld
              go_simp
              clear s1 s2
              go_wp2_with fail
              refine hK.out _ _ (HJ12.out.s22 hok (alloc_drew w12 _)) (fun hHeld => ?_)
              clear hK K
              try simp only [List.getElem_toArray, List.getElem_cons_zero, List.getElem_cons_succ, Act.put, List.setIfInBounds_toArray, List.set_cons_zero, List.set_cons_succ]
              refine wpAnyH_ready (rs := [7]) (by kernel_rfl) (by simp) ?_
              refine (AllReadyH.cons rfl (fun K hK => ?_) AllReadyH.nil)
              obtain ⟨s1, s2⟩ := hHeld
              go_simp
              clear s1 s2
              go_wp2_with fail
              refine hK.out _ _ (HJ12.out.s22 hok (HBB.out.then (drew_below _))) (fun hHeld => ?_)
              clear hK K
              try simp only [List.getElem_toArray, List.getElem_cons_zero, List.getElem_cons_succ, Act.put, List.setIfInBounds_toArray, List.set_cons_zero, List.set_cons_succ]
              refine wpAnyH_ready (rs := [8]) (by kernel_rfl) (by simp) ?_
              refine (AllReadyH.cons rfl (fun K hK => ?_) AllReadyH.nil)
              obtain ⟨s1, s2⟩ := hHeld
              refine step_append_runI rfl (.tmp 142) (.tmp 145) 116 116 rfl _ _ (by first | rfl | simp [Act.eval, Act.put]) (by first | rfl | simp [Act.eval, Act.put]) HRUN.out ?_
              have G22 := Lib.hid (rj_app_s HJ12.out hok HBB.out HGR.out)
              clear s1 s2
              go_wp2_with fail
              refine hK.out _ _ (G22.out.1) (fun hHeld => ?_)
              clear hK K
              try simp only [List.getElem_toArray, List.getElem_cons_zero, List.getElem_cons_succ, Act.put, List.setIfInBounds_toArray, List.set_cons_zero, List.set_cons_succ]
              refine' wpAnyH_take (i := 9) (v := _) rfl (by kernel_rfl) (by kernel_rfl) (by kernel_rfl) (fun _ _ _ h => h) (Or.inl ⟨by rfl, ?hy31⟩) hHeld ?rest31
              case hy31 => (intro w' hS; obtain ⟨s1, s2⟩ := hS; (try simp only [List.getElem_toArray, List.getElem_cons_zero, List.getElem_cons_succ]); go_simp; try with_reducible rfl)
              try simp only [List.getElem_toArray, List.getElem_cons_zero, List.getElem_cons_succ, Act.put, List.setIfInBounds_toArray, List.set_cons_zero, List.set_cons_succ]
              refine' wpAnyH_take (i := 10) (v := _) rfl (by kernel_rfl) (by kernel_rfl) (by kernel_rfl) (fun _ _ _ h => h) (Or.inl ⟨by rfl, ?hy32⟩) hHeld ?rest32
              case hy32 => (intro w' hS; obtain ⟨s1, s2⟩ := hS; (try simp only [List.getElem_toArray, List.getElem_cons_zero, List.getElem_cons_succ]); go_simp; try with_reducible rfl)
              try simp only [List.getElem_toArray, List.getElem_cons_zero, List.getElem_cons_succ, Act.put, List.setIfInBounds_toArray, List.set_cons_zero, List.set_cons_succ]
              refine wpAnyH_ready (rs := [11]) (by kernel_rfl) (by simp) ?_
              refine (AllReadyH.cons rfl (fun K hK => ?_) AllReadyH.nil)
              obtain ⟨s1, s2⟩ := hHeld
              have hc2 := G22.out.2.1
              have hz2 := G22.out.2.2.1
              go_simp
              clear hc2 hz2 s1 s2
              go_wp2_with fail
              refine hK.out _ _ (G22.out.2.2.2 _) (fun hHeld => ?_)
              clear hK K
              try simp only [List.getElem_toArray, List.getElem_cons_zero, List.getElem_cons_succ, Act.put, List.setIfInBounds_toArray, List.set_cons_zero, List.set_cons_succ]
              refine wpAnyH_done (by kernel_rfl) ?_ _
              go_wp2_with fail
              go_meet
              case rel => exact ⟨L1.length, rfl, by omega, Lib.hid ⟨_, _, _, rj3_app HJ12.out hok HMY.out HPL.out HO12.out HVS1.out hn1 HL1.out HST0.out rfl HOWN.out HGR.out HOB.out⟩⟩
            · obtain ⟨s1, s2⟩ := hHeld
              go_simp
              clear s1 s2
              go_wp2_with fail
              refine hK.out _ _ (HJ12.out.s22 hok (alloc_drew w12 _)) (fun hHeld => ?_)
              clear hK K
              try simp only [List.getElem_toArray, List.getElem_cons_zero, List.getElem_cons_succ, Act.put, List.setIfInBounds_toArray, List.set_cons_zero, List.set_cons_succ]
              refine wpAnyH_ready (rs := [4, 7]) (by kernel_rfl) (by simp) ?_
              refine (AllReadyH.cons rfl (fun K hK => ?_) (AllReadyH.cons rfl (fun K hK => ?_) AllReadyH.nil))
              · obtain ⟨s1, s2⟩ := hHeld
                have hF := (HJ12.out.tab.below (alloc_drew w12 (.cells (partA p v2) 95))).cells.2.2.1
                go_simp
                clear hF s1 s2
                go_wp2_with fail
                refine hK.out _ _ (HJ12.out.s22 hok (alloc_drew w12 _)) (fun hHeld => ?_)
                clear hK K
                try simp only [List.getElem_toArray, List.getElem_cons_zero, List.getElem_cons_succ, Act.put, List.setIfInBounds_toArray, List.set_cons_zero, List.set_cons_succ]
                refine wpAnyH_ready (rs := [7]) (by kernel_rfl) (by simp) ?_
                refine (AllReadyH.cons rfl (fun K hK => ?_) AllReadyH.nil)
                obtain ⟨s1, s2⟩ := hHeld
                go_simp
                clear s1 s2
                go_wp2_with fail
                refine hK.out _ _ (HJ12.out.s22 hok (HBB.out.then (drew_below _))) (fun hHeld => ?_)
                clear hK K
                try simp only [List.getElem_toArray, List.getElem_cons_zero, List.getElem_cons_succ, Act.put, List.setIfInBounds_toArray, List.set_cons_zero, List.set_cons_succ]
                refine wpAnyH_ready (rs := [8]) (by kernel_rfl) (by simp) ?_
                refine (AllReadyH.cons rfl (fun K hK => ?_) AllReadyH.nil)
                obtain ⟨s1, s2⟩ := hHeld
                refine step_append_runI rfl (.tmp 142) (.tmp 145) 116 116 rfl _ _ (by first | rfl | simp [Act.eval, Act.put]) (by first | rfl | simp [Act.eval, Act.put]) HRUN.out ?_
                have G22 := Lib.hid (rj_app_s HJ12.out hok HBB.out HGR.out)
                clear s1 s2
                go_wp2_with fail
                refine hK.out _ _ (G22.out.1) (fun hHeld => ?_)
                clear hK K
                try simp only [List.getElem_toArray, List.getElem_cons_zero, List.getElem_cons_succ, Act.put, List.setIfInBounds_toArray, List.set_cons_zero, List.set_cons_succ]
                refine' wpAnyH_take (i := 9) (v := _) rfl (by kernel_rfl) (by kernel_rfl) (by kernel_rfl) (fun _ _ _ h => h) (Or.inl ⟨by rfl, ?hy38⟩) hHeld ?rest38
                case hy38 => (intro w' hS; obtain ⟨s1, s2⟩ := hS; (try simp only [List.getElem_toArray, List.getElem_cons_zero, List.getElem_cons_succ]); go_simp; try with_reducible rfl)
                try simp only [List.getElem_toArray, List.getElem_cons_zero, List.getElem_cons_succ, Act.put, List.setIfInBounds_toArray, List.set_cons_zero, List.set_cons_succ]
                refine' wpAnyH_take (i := 10) (v := _) rfl (by kernel_rfl) (by kernel_rfl) (by kernel_rfl) (fun _ _ _ h => h) (Or.inl ⟨by rfl, ?hy39⟩) hHeld ?rest39
                case hy39 => (intro w' hS; obtain ⟨s1, s2⟩ := hS; (try simp only [List.getElem_toArray, List.getElem_cons_zero, List.getElem_cons_succ]); go_simp; try with_reducible rfl)
                try simp only [List.getElem_toArray, List.getElem_cons_zero, List.getElem_cons_succ, Act.put, List.setIfInBounds_toArray, List.set_cons_zero, List.set_cons_succ]
                refine wpAnyH_ready (rs := [11]) (by kernel_rfl) (by simp) ?_
                refine (AllReadyH.cons rfl (fun K hK => ?_) AllReadyH.nil)
                obtain ⟨s1, s2⟩ := hHeld
                have hc2 := G22.out.2.1
                have hz2 := G22.out.2.2.1
                go_simp
                clear hc2 hz2 s1 s2
                go_wp2_with fail
                refine hK.out _ _ (G22.out.2.2.2 _) (fun hHeld => ?_)
                clear hK K
                try simp only [List.getElem_toArray, List.getElem_cons_zero, List.getElem_cons_succ, Act.put, List.setIfInBounds_toArray, List.set_cons_zero, List.set_cons_succ]
                refine wpAnyH_done (by kernel_rfl) ?_ _
                go_wp2_with fail
                go_meet
                case rel => exact ⟨L1.length, rfl, by omega, Lib.hid ⟨_, _, _, rj3_app HJ12.out hok HMY.out HPL.out HO12.out HVS1.out hn1 HL1.out HST0.out rfl HOWN.out HGR.out HOB.out⟩⟩
              · obtain ⟨s1, s2⟩ := hHeld
                go_simp
                clear s1 s2
                go_wp2_with fail
                refine hK.out _ _ (HJ12.out.s22 hok (HBB.out.then (drew_below _))) (fun hHeld => ?_)
                clear hK K
                try simp only [List.getElem_toArray, List.getElem_cons_zero, List.getElem_cons_succ, Act.put, List.setIfInBounds_toArray, List.set_cons_zero, List.set_cons_succ]
                refine wpAnyH_ready (rs := [4]) (by kernel_rfl) (by simp) ?_
                refine (AllReadyH.cons rfl (fun K hK => ?_) AllReadyH.nil)
                obtain ⟨s1, s2⟩ := hHeld
                have hF := (HJ12.out.tab.below (HBB.out.then (drew_below _))).cells.2.2.1
                go_simp
                clear hF s1 s2
                go_wp2_with fail
                refine hK.out _ _ (HJ12.out.s22 hok (HBB.out.then (drew_below _))) (fun hHeld => ?_)
                clear hK K
                try simp only [List.getElem_toArray, List.getElem_cons_zero, List.getElem_cons_succ, Act.put, List.setIfInBounds_toArray, List.set_cons_zero, List.set_cons_succ]
                refine wpAnyH_ready (rs := [8]) (by kernel_rfl) (by simp) ?_
                refine (AllReadyH.cons rfl (fun K hK => ?_) AllReadyH.nil)
                obtain ⟨s1, s2⟩ := hHeld
                refine step_append_runI rfl (.tmp 142) (.tmp 145) 116 116 rfl _ _ (by first | rfl | simp [Act.eval, Act.put]) (by first | rfl | simp [Act.eval, Act.put]) HRUN.out ?_
                have G22 := Lib.hid (rj_app_s HJ12.out hok HBB.out HGR.out)
                clear s1 s2
                go_wp2_with fail
                refine hK.out _ _ (G22.out.1) (fun hHeld => ?_)
                clear hK K
                try simp only [List.getElem_toArray, List.getElem_cons_zero, List.getElem_cons_succ, Act.put, List.setIfInBounds_toArray, List.set_cons_zero, List.set_cons_succ]
                refine' wpAnyH_take (i := 9) (v := _) rfl (by kernel_rfl) (by kernel_rfl) (by kernel_rfl) (fun _ _ _ h => h) (Or.inl ⟨by rfl, ?hy44⟩) hHeld ?rest44
                case hy44 => (intro w' hS; obtain ⟨s1, s2⟩ := hS; (try simp only [List.getElem_toArray, List.getElem_cons_zero, List.getElem_cons_succ]); go_simp; try with_reducible rfl)
                try simp only [List.getElem_toArray, List.getElem_cons_zero, List.getElem_cons_succ, Act.put, List.setIfInBounds_toArray, List.set_cons_zero, List.set_cons_succ]
                refine' wpAnyH_take (i := 10) (v := _) rfl (by kernel_rfl) (by kernel_rfl) (by kernel_rfl) (fun _ _ _ h => h) (Or.inl ⟨by rfl, ?hy45⟩) hHeld ?rest45
                case hy45 => (intro w' hS; obtain ⟨s1, s2⟩ := hS; (try simp only [List.getElem_toArray, List.getElem_cons_zero, List.getElem_cons_succ]); go_simp; try with_reducible rfl)
                try simp only [List.getElem_toArray, List.getElem_cons_zero, List.getElem_cons_succ, Act.put, List.setIfInBounds_toArray, List.set_cons_zero, List.set_cons_succ]
                refine wpAnyH_ready (rs := [11]) (by kernel_rfl) (by simp) ?_
                refine (AllReadyH.cons rfl (fun K hK => ?_) AllReadyH.nil)
                obtain ⟨s1, s2⟩ := hHeld
                have hc2 := G22.out.2.1
                have hz2 := G22.out.2.2.1
                go_simp
                clear hc2 hz2 s1 s2
                go_wp2_with fail
                refine hK.out _ _ (G22.out.2.2.2 _) (fun hHeld => ?_)
                clear hK K
                try simp only [List.getElem_toArray, List.getElem_cons_zero, List.getElem_cons_succ, Act.put, List.setIfInBounds_toArray, List.set_cons_zero, List.set_cons_succ]
                refine wpAnyH_done (by kernel_rfl) ?_ _
                go_wp2_with fail
                go_meet
                case rel => exact ⟨L1.length, rfl, by omega, Lib.hid ⟨_, _, _, rj3_app HJ12.out hok HMY.out HPL.out HO12.out HVS1.out hn1 HL1.out HST0.out rfl HOWN.out HGR.out HOB.out⟩⟩
      · as_aux_lemma =>
          obtain ⟨hRi, x, hx, hxn⟩ := rix_some hfind
          obtain rfl : R = (i : Int) := HR.out.trans hRi
          obtain ⟨gl, cl, m, gx, cx, hlv, hl1, hl2, hil, hxv, hMgl, hPX⟩ := pkx_of HJ10.out.tab HO.out HSM.out hx
          cases hlv
          have HSCX := Lib.hid (HSC.out i x rfl hx)
          have HST : Hid (takeS many most (L.map RkM.T) p = stepIn (L.map RkM.T) i p.nm x.S p) := Lib.hid (rtake_some hx hfind (by have := HMN.out; omega) HMY.out)
          have HX := Lib.hid hx
          have HXN := Lib.hid hxn
          have HXL : Hid (x.ps.length ≤ 1048576 ∧ ∀ z ∈ x.ps, z.1.bs.length ≤ 1048576) := Lib.hid (by
            have h1 := HSM.out.2 x.T (List.mem_map_of_mem (List.mem_of_getElem? hx))
            have h2 := hPX.sim
            refine ⟨?_, fun z hz => h1.2 z.1 (h2.subset (List.mem_map_of_mem hz))⟩
            have h3 := h2.length_eq
            rw [List.length_map] at h3
            rw [h3]; exact h1.1)
          have hi0 : (0 : Int) ≤ (i : Int) := by omega
          have hi1 : (i : Int) < (L.length : Int) := by omega
          have HCELL := Lib.hid hPX.cell
          obtain ⟨v', w', hrun, hown, hgr, hob⟩ := rins_run (HJ10.out.tab.rows x (List.mem_of_getElem? hx)).1 HXL.out.1 hok hv21
          obtain ⟨a2', c2', rfl, _, _⟩ := ownsRow_shape hown
          have HGR := Lib.hid hgr
          have HOB := Lib.hid hob
          have HXV := Lib.hid hxv
          rw [hxv] at hrun
          have HRUN := Lib.hid hrun
          have HOWN := Lib.hid hown
          clear hfind hx hxn hRi hMgl hPX hrun hown hgr hob hxv
          go_upto_region 23 with fail
          refine wp_region_held_drew (S := fun w' => S3 F gp (.slice (some ⟨gl, 0, none⟩) L.length c) p v2 w') (by kernel_rfl) (HJ10.out.s3 hok (drew_below w10)) (fun hHeld => ?_)
          refine' wpAnyH_take (i := 0) (v := _) rfl (by kernel_rfl) (by kernel_rfl) (by kernel_rfl) (fun _ _ _ h => h) (Or.inl ⟨by rfl, ?hy48⟩) hHeld ?rest48
          case hy48 => (intro w' hS; obtain ⟨s1, s2, s3⟩ := hS; (try simp only [List.getElem_toArray, List.getElem_cons_zero, List.getElem_cons_succ]); go_simp; try with_reducible rfl)
          try simp only [List.getElem_toArray, List.getElem_cons_zero, List.getElem_cons_succ, Act.put, List.setIfInBounds_toArray, List.set_cons_zero, List.set_cons_succ]
          refine' wpAnyH_take (i := 1) (v := _) rfl (by kernel_rfl) (by kernel_rfl) (by kernel_rfl) (fun _ _ _ h => h) (Or.inl ⟨by rfl, ?hy49⟩) hHeld ?rest49
          case hy49 => (intro w' hS; obtain ⟨s1, s2, s3⟩ := hS; (try simp only [List.getElem_toArray, List.getElem_cons_zero, List.getElem_cons_succ]); go_simp; try with_reducible rfl)
          try simp only [List.getElem_toArray, List.getElem_cons_zero, List.getElem_cons_succ, Act.put, List.setIfInBounds_toArray, List.set_cons_zero, List.set_cons_succ]
          refine' wpAnyH_take (i := 2) (v := _) rfl (by kernel_rfl) (by kernel_rfl) (by kernel_rfl) (fun _ _ _ h => h) (Or.inl ⟨by rfl, ?hy50⟩) hHeld ?rest50
          case hy50 => (intro w' hS; obtain ⟨s1, s2, s3⟩ := hS; (try simp only [List.getElem_toArray, List.getElem_cons_zero, List.getElem_cons_succ]); go_simp; try with_reducible rfl)
          try simp only [List.getElem_toArray, List.getElem_cons_zero, List.getElem_cons_succ, Act.put, List.setIfInBounds_toArray, List.set_cons_zero, List.set_cons_succ]
          refine' wpAnyH_take (i := 3) (v := _) rfl (by kernel_rfl) (by kernel_rfl) (by kernel_rfl) (fun _ _ _ h => h) (Or.inl ⟨by rfl, ?hy51⟩) hHeld ?rest51
          case hy51 => (intro w' hS; obtain ⟨s1, s2, s3⟩ := hS; (try simp only [List.getElem_toArray, List.getElem_cons_zero, List.getElem_cons_succ]); go_simp; try with_reducible rfl)
          try simp only [List.getElem_toArray, List.getElem_cons_zero, List.getElem_cons_succ, Act.put, List.setIfInBounds_toArray, List.set_cons_zero, List.set_cons_succ]
          refine' wpAnyH_take (i := 4) (v := _) rfl (by kernel_rfl) (by kernel_rfl) (by kernel_rfl) (fun _ _ _ h => h) (Or.inl ⟨by rfl, ?hy52⟩) hHeld ?rest52
          case hy52 => (intro w' hS; obtain ⟨s1, s2, s3⟩ := hS; (try simp only [List.getElem_toArray, List.getElem_cons_zero, List.getElem_cons_succ]); go_simp; try with_reducible rfl)
          try simp only [List.getElem_toArray, List.getElem_cons_zero, List.getElem_cons_succ, Act.put, List.setIfInBounds_toArray, List.set_cons_zero, List.set_cons_succ]
          refine' wpAnyH_take (i := 5) (v := _) rfl (by kernel_rfl) (by kernel_rfl) (by kernel_rfl) (fun _ _ _ h => h) (Or.inl ⟨by rfl, ?hy53⟩) hHeld ?rest53
          case hy53 => (intro w' hS; obtain ⟨s1, s2, s3⟩ := hS; (try simp only [List.getElem_toArray, List.getElem_cons_zero, List.getElem_cons_succ]); go_simp; try with_reducible rfl)
          try simp only [List.getElem_toArray, List.getElem_cons_zero, List.getElem_cons_succ, Act.put, List.setIfInBounds_toArray, List.set_cons_zero, List.set_cons_succ]
          refine' wpAnyH_take (i := 6) (v := _) rfl (by kernel_rfl) (by kernel_rfl) (by kernel_rfl) (fun _ _ _ h => h) (Or.inl ⟨by rfl, ?hy54⟩) hHeld ?rest54
          case hy54 => (intro w' hS; obtain ⟨s1, s2, s3⟩ := hS; (try simp only [List.getElem_toArray, List.getElem_cons_zero, List.getElem_cons_succ]); go_simp; try with_reducible rfl)
          try simp only [List.getElem_toArray, List.getElem_cons_zero, List.getElem_cons_succ, Act.put, List.setIfInBounds_toArray, List.set_cons_zero, List.set_cons_succ]
          refine' wpAnyH_take (i := 7) (v := _) rfl (by kernel_rfl) (by kernel_rfl) (by kernel_rfl) (fun _ _ _ h => h) (Or.inl ⟨by rfl, ?hy55⟩) hHeld ?rest55
          case hy55 => (intro w' hS; obtain ⟨s1, s2, s3⟩ := hS; (try simp only [List.getElem_toArray, List.getElem_cons_zero, List.getElem_cons_succ]); go_simp; try with_reducible rfl)
          try simp only [List.getElem_toArray, List.getElem_cons_zero, List.getElem_cons_succ, Act.put, List.setIfInBounds_toArray, List.set_cons_zero, List.set_cons_succ]
          refine' wpAnyH_take (i := 8) (v := _) rfl (by kernel_rfl) (by kernel_rfl) (by kernel_rfl) (fun _ _ _ h => h) (Or.inl ⟨by rfl, ?hy56⟩) hHeld ?rest56
          case hy56 => (intro w' hS; obtain ⟨s1, s2, s3⟩ := hS; (try simp only [List.getElem_toArray, List.getElem_cons_zero, List.getElem_cons_succ]); go_simp; try with_reducible rfl)
          try simp only [List.getElem_toArray, List.getElem_cons_zero, List.getElem_cons_succ, Act.put, List.setIfInBounds_toArray, List.set_cons_zero, List.set_cons_succ]
          refine' wpAnyH_take (i := 9) (v := _) rfl (by kernel_rfl) (by kernel_rfl) (by kernel_rfl) (fun _ _ _ h => h) (Or.inl ⟨by rfl, ?hy57⟩) hHeld ?rest57
          case hy57 => (intro w' hS; obtain ⟨s1, s2, s3⟩ := hS; (try simp only [List.getElem_toArray, List.getElem_cons_zero, List.getElem_cons_succ]); go_simp; try with_reducible rfl)
          try simp only [List.getElem_toArray, List.getElem_cons_zero, List.getElem_cons_succ, Act.put, List.setIfInBounds_toArray, List.set_cons_zero, List.set_cons_succ]
          refine' wpAnyH_take (i := 10) (v := _) rfl (by kernel_rfl) (by kernel_rfl) (by kernel_rfl) (fun _ _ _ h => h) (Or.inl ⟨by rfl, ?hy58⟩) hHeld ?rest58
          case hy58 => (intro w' hS; obtain ⟨s1, s2, s3⟩ := hS; (try simp only [List.getElem_toArray, List.getElem_cons_zero, List.getElem_cons_succ]); go_simp; try with_reducible rfl)
          try simp only [List.getElem_toArray, List.getElem_cons_zero, List.getElem_cons_succ, Act.put, List.setIfInBounds_toArray, List.set_cons_zero, List.set_cons_succ]
          refine' wpAnyH_take (i := 12) (v := _) rfl (by kernel_rfl) (by kernel_rfl) (by kernel_rfl) (fun _ _ _ h => h) (Or.inl ⟨by rfl, ?hy59⟩) hHeld ?rest59
          case hy59 => (intro w' hS; obtain ⟨s1, s2, s3⟩ := hS; (try simp only [List.getElem_toArray, List.getElem_cons_zero, List.getElem_cons_succ]); go_simp; try with_reducible rfl)
          try simp only [List.getElem_toArray, List.getElem_cons_zero, List.getElem_cons_succ, Act.put, List.setIfInBounds_toArray, List.set_cons_zero, List.set_cons_succ]
          refine wpAnyH_ready (rs := [11, 13]) (by kernel_rfl) (by simp) ?_
          refine (AllReadyH.cons rfl (fun K hK => ?_) (AllReadyH.cons rfl (fun K hK => ?_) AllReadyH.nil))
          · obtain ⟨s1, s2, s3⟩ := hHeld
            have hF := below_cells (drew_below w10) _ _ HCELL.out
            go_simp
            clear hF s1 s2 s3
            go_wp2_with fail
            refine hK.out _ _ (HJ10.out.s3 hok (drew_below w10)) (fun hHeld => ?_)
            clear hK K
            try simp only [List.getElem_toArray, List.getElem_cons_zero, List.getElem_cons_succ, Act.put, List.setIfInBounds_toArray, List.set_cons_zero, List.set_cons_succ]
            refine wpAnyH_ready (rs := [13]) (by kernel_rfl) (by simp) ?_
            refine (AllReadyH.cons rfl (fun K hK => ?_) AllReadyH.nil)
            obtain ⟨s1, s2, s3⟩ := hHeld
            go_simp
            clear s1 s2 s3
            go_wp2_with fail
            refine hK.out _ _ (HJ10.out.s3 hok (alloc_drew w10 _)) (fun hHeld => ?_)
            clear hK K
            try simp only [List.getElem_toArray, List.getElem_cons_zero, List.getElem_cons_succ, Act.put, List.setIfInBounds_toArray, List.set_cons_zero, List.set_cons_succ]
            refine wpAnyH_ready (rs := [14]) (by kernel_rfl) (by simp) ?_
            refine (AllReadyH.cons rfl (fun K hK => ?_) AllReadyH.nil)
            obtain ⟨s1, s2, s3⟩ := hHeld
            refine step_append_runI rfl (.tmp 160) (.tmp 162) 137 137 rfl _ _ (by first | rfl | simp [Act.eval, Act.put]) (by first | rfl | simp [Act.eval, Act.put]) HRUN.out ?_
            have G23 := Lib.hid (rj_ins_s HJ10.out hok HX.out rfl (below_alloc w10 _) HGR.out)
            clear s1 s2 s3
            go_wp2_with fail
            refine hK.out _ _ (G23.out.1) (fun hHeld => ?_)
            clear hK K
            try simp only [List.getElem_toArray, List.getElem_cons_zero, List.getElem_cons_succ, Act.put, List.setIfInBounds_toArray, List.set_cons_zero, List.set_cons_succ]
            refine' wpAnyH_take (i := 15) (v := _) rfl (by kernel_rfl) (by kernel_rfl) (by kernel_rfl) (fun _ _ _ h => h) (Or.inl ⟨by rfl, ?hy63⟩) hHeld ?rest63
            case hy63 => (intro w' hS; obtain ⟨s1, s2, s3⟩ := hS; (try simp only [List.getElem_toArray, List.getElem_cons_zero, List.getElem_cons_succ]); go_simp; try with_reducible rfl)
            try simp only [List.getElem_toArray, List.getElem_cons_zero, List.getElem_cons_succ, Act.put, List.setIfInBounds_toArray, List.set_cons_zero, List.set_cons_succ]
            refine wpAnyH_ready (rs := [16]) (by kernel_rfl) (by simp) ?_
            refine (AllReadyH.cons rfl (fun K hK => ?_) AllReadyH.nil)
            obtain ⟨s1, s2, s3⟩ := hHeld
            have hc2 := G23.out.2.1
            rw [HXV.out] at hc2
            have hz2 := G23.out.2.2.1
            go_simp
            clear hc2 hz2 s1 s2 s3
            go_wp2_with fail
            refine hK.out _ _ (G23.out.2.2.2 _) (fun hHeld => ?_)
            clear hK K
            try simp only [List.getElem_toArray, List.getElem_cons_zero, List.getElem_cons_succ, Act.put, List.setIfInBounds_toArray, List.set_cons_zero, List.set_cons_succ]
            refine wpAnyH_done (by kernel_rfl) ?_ _
            go_wp2_with fail
            go_meet
            case rel => exact ⟨i, rfl, by have := HLEN.out; omega, Lib.hid ⟨_, _, _, rj3_ins HJ10.out HO.out hok HMY.out HPL.out HO10.out (by have := HLEN.out; omega) HX.out HXL.out rfl HXN.out HST.out HSCX.out.1 HSCX.out.2 HOWN.out HGR.out HOB.out⟩⟩
          · obtain ⟨s1, s2, s3⟩ := hHeld
            go_simp
            clear s1 s2 s3
            go_wp2_with fail
            refine hK.out _ _ (HJ10.out.s3 hok (alloc_drew w10 _)) (fun hHeld => ?_)
            clear hK K
            try simp only [List.getElem_toArray, List.getElem_cons_zero, List.getElem_cons_succ, Act.put, List.setIfInBounds_toArray, List.set_cons_zero, List.set_cons_succ]
            refine wpAnyH_ready (rs := [11]) (by kernel_rfl) (by simp) ?_
            refine (AllReadyH.cons rfl (fun K hK => ?_) AllReadyH.nil)
            obtain ⟨s1, s2, s3⟩ := hHeld
            have hF := below_cells (alloc_drew w10 (.cells (partA p v2) 95)) _ _ HCELL.out
            go_simp
            clear hF s1 s2 s3
            go_wp2_with fail
            refine hK.out _ _ (HJ10.out.s3 hok (alloc_drew w10 _)) (fun hHeld => ?_)
            clear hK K
            try simp only [List.getElem_toArray, List.getElem_cons_zero, List.getElem_cons_succ, Act.put, List.setIfInBounds_toArray, List.set_cons_zero, List.set_cons_succ]
            refine wpAnyH_ready (rs := [14]) (by kernel_rfl) (by simp) ?_
            refine (AllReadyH.cons rfl (fun K hK => ?_) AllReadyH.nil)
            obtain ⟨s1, s2, s3⟩ := hHeld
            refine step_append_runI rfl (.tmp 160) (.tmp 162) 137 137 rfl _ _ (by first | rfl | simp [Act.eval, Act.put]) (by first | rfl | simp [Act.eval, Act.put]) HRUN.out ?_
            have G23 := Lib.hid (rj_ins_s HJ10.out hok HX.out rfl (below_alloc w10 _) HGR.out)
            clear s1 s2 s3
            go_wp2_with fail
            refine hK.out _ _ (G23.out.1) (fun hHeld => ?_)
            clear hK K
            try simp only [List.getElem_toArray, List.getElem_cons_zero, List.getElem_cons_succ, Act.put, List.setIfInBounds_toArray, List.set_cons_zero, List.set_cons_succ]
            refine' wpAnyH_take (i := 15) (v := _) rfl (by kernel_rfl) (by kernel_rfl) (by kernel_rfl) (fun _ _ _ h => h) (Or.inl ⟨by rfl, ?hy68⟩) hHeld ?rest68
            case hy68 => (intro w' hS; obtain ⟨s1, s2, s3⟩ := hS; (try simp only [List.getElem_toArray, List.getElem_cons_zero, List.getElem_cons_succ]); go_simp; try with_reducible rfl)
            try simp only [List.getElem_toArray, List.getElem_cons_zero, List.getElem_cons_succ, Act.put, List.setIfInBounds_toArray, List.set_cons_zero, List.set_cons_succ]
            refine wpAnyH_ready (rs := [16]) (by kernel_rfl) (by simp) ?_
            refine (AllReadyH.cons rfl (fun K hK => ?_) AllReadyH.nil)
            obtain ⟨s1, s2, s3⟩ := hHeld
            have hc2 := G23.out.2.1
            rw [HXV.out] at hc2
            have hz2 := G23.out.2.2.1
            go_simp
            clear hc2 hz2 s1 s2 s3
            go_wp2_with fail
            refine hK.out _ _ (G23.out.2.2.2 _) (fun hHeld => ?_)
            clear hK K
            try simp only [List.getElem_toArray, List.getElem_cons_zero, List.getElem_cons_succ, Act.put, List.setIfInBounds_toArray, List.set_cons_zero, List.set_cons_succ]
            refine wpAnyH_done (by kernel_rfl) ?_ _
            go_wp2_with fail
            go_meet
            case rel => exact ⟨i, rfl, by have := HLEN.out; omega, Lib.hid ⟨_, _, _, rj3_ins HJ10.out HO.out hok HMY.out HPL.out HO10.out (by have := HLEN.out; omega) HX.out HXL.out rfl HXN.out HST.out HSCX.out.1 HSCX.out.2 HOWN.out HGR.out HOB.out⟩⟩
    case rest =>
      obtain ⟨i, rfl, hi77, HJE⟩ := hcut
      obtain ⟨lv3, L3, x, hJ3⟩ := HJE.out
      have HJ3 := Lib.hid hJ3
      have hxm := List.mem_of_getElem? hJ3.at_
      have q4 := hJ3.tab.cells.2.2.1
      obtain ⟨gl, cl, hlv, hl1, hl2, _, hcells⟩ := hJ3.tab.shape hJ3.at_
      subst hlv
      obtain ⟨gx, cx, hxv, hx1, hx2, _, hpts⟩ := hJ3.tab.row hxm hJ3.ok.1 (fun z hz => (hJ3.ok.2 z hz).1)
      have q5 := hcells i x hJ3.at_
      rw [hxv] at q5
      have hil := (List.getElem?_eq_some_iff.1 hJ3.at_).1
      have hi0 : (0 : Int) ≤ (i : Int) := by omega
      have hi1 : (i : Int) < (L3.length : Int) := by omega
      have HW := Lib.hid (whole_any wc gx cx x.ps x.S most hJ3.seq (hJ3.tab.sim x hxm) hx1 hx2 hpts (fun z hz => ⟨(hJ3.ok.2 z hz).1, (hJ3.tab.bs x hxm z hz).1.bs⟩) hmost hJ3.len.2 (fun z hz => (hJ3.ok.2 z hz).2))
      clear hJ3 hxm hcells hpts HJE
      go_wp2_with fail
      refine HW.out.mono ?_
      rintro e w13 ⟨⟨u, rfl, hu⟩, hb13⟩
      have HJ13 := Lib.hid (HJ3.out.below hb13)
      have HT13 := Lib.hid (HJ3.out.tab.below hb13)
      have HB13 := Lib.hid hb13
      obtain ⟨r, hr⟩ : ∃ r, r = wholeB x.S := ⟨_, rfl⟩
      rw [← hr] at hu ⊢
      have HRW := Lib.hid hr
      clear hr q4 q5 HW hb13
      rcases r with _ | _
      · clear hu
        go_wp2_with fail
        go_ret3
        rw [HQ.out]
        exact rj3_end HJ13.out HRW.out.symm rfl
      · have hou := hu rfl
        obtain ⟨au, cu, rfl, _, _⟩ := ownsRow_shape hou
        have HOU := Lib.hid hou
        have q4 := HJ13.out.tab.cells.2.2.1
        have HLS := Lib.hid (HT13.out.less HJ3.out.len.1 i)
        clear hu hou
        go_wp2_with fail
        refine HLS.out.mono ?_
        rintro e w14 ⟨⟨lv', rfl, how⟩, hb14⟩
        obtain ⟨a', c', rfl, _, _⟩ := ownsRow_shape how
        have HOW := Lib.hid how
        have HB14 := Lib.hid hb14
        obtain ⟨y1, y2⟩ := HT13.out.fcell hb14
        clear how hb14 q4
        go_wp2_with fail
        go_ret3
        rw [HQ.out]
        have hst := HJ3.out.step
        rw [if_pos HRW.out.symm] at hst
        exact rgone_ret HT13.out (mx_old HJ3.out.ord.1) HJ13.out.only HJ3.out.inF i HOW.out HB14.out hst (Own.mono HOU.out HJ3.out.only.size) (fun k hk hm => by
          have h1 := (World.ownsRow.lt HOU.out k hk).1
          have h2 := HJ3.out.tab.sub k hm
          omega) rfl
end Go.Proofs.Ytnckmaieghlpmaa
