/-
  frag.Take, walked.
-/
import Derived.Test.YtnckmaieghlpmaaZ6
import Derived.Deep.DeepCutAuto
namespace Go.Proofs.Ytnckmaieghlpmaa
open Go.RowKit
set_option linter.unusedVariables false
set_option linter.unusedSimpArgs false
attribute [local go_sem ↓] fold_ld54 fold_st54 fold_ld90 fold_st90 fold_ld121 fold_st121 fold_ld124 fold_st124 fold_bd124 fold_bs113 fold_bs83 Go.wp_at_zero Go.wp_at_succ
attribute [local go_sem] ld54_at st54_at ld90_at st90_pt ld121_at st121_nm ld124_at free_new1 bd124_at bs113_at bs83_at bx36 bx37 bx38 bxhas bxrd

def S28 (gl i gq o : Nat) (v : Value) (mo : Bool) (w' : World) : Prop := w'.cell? ⟨gl, i * 37 + 36, none⟩ = some v ∧ w'.cell? ⟨gq, o, none⟩ = some (.bool mo)
def S11 (gf F ga i : Nat) (lv : Value) (w' : World) : Prop := w'.cell? ⟨gf, 0, none⟩ = some (.pointer (some ⟨F, 0, none⟩)) ∧ w'.cell? ⟨F, 2, none⟩ = some lv ∧ w'.cell? ⟨ga, 0, none⟩ = some (.int .i64 i)
set_option maxRecDepth 100000 in
set_option maxHeartbeats 8000000 in
theorem take_in (w : World) (M : Nat → Prop) (F : Nat) (many most : Int) (lv : Value) (L : List PkM) (p : PartD) (v : Value) (hT : TabL w M F many most lv L) (hp : p.nm.fit) (hv : Bs w v p.bs) (hvM : ∀ k, v.ownBlock = some k → ¬ M k)
    (hm : ¬ many < 1) (hmost : most ≤ 9223372036854775807) (hmay : mayB most p = true) (hO : OkT many most (L.map PkM.T)) (hsm : SmT (L.map PkM.T)) (hpl : p.bs.length ≤ 1048576) :
    Calls Try.prog 51 #[.pointer (some ⟨F, 0, none⟩), .agg (partA p v)] w (TakeRet w M F many most (L.map PkM.T) p) := by
  have HT := Lib.hid hT
  have HP := Lib.hid hp
  have HV := Lib.hid hv
  have HVM := Lib.hid hvM
  obtain ⟨c1, c2, c3, c4⟩ := hT.cells
  have hF := HT.out.sub F HT.out.inF
  have n1 := World.new_ne w ⟨F, 0, none⟩ c1
  have HM := Lib.hid (fun w' h => may_any w' F most p v HP.out.1 (HV.out.below h) (below_cells h _ _ c2) hmost)
  have HMY := Lib.hid hmay
  have HO := Lib.hid hO
  have HSMT := Lib.hid hsm
  have HSM : Hid (L.length ≤ 1048576) := Lib.hid (by have := hsm.1; rwa [List.length_map] at this)
  have HPL := Lib.hid hpl
  have HB : Hid (B1 p v F w.heap.size (w.heap.size + 1) ((w.alloc (.cells #[.pointer (some ⟨F, 0, none⟩)] 85)).alloc (.cells (partA p v) 90))) := Lib.hid (b1_new w p v F hp.1)
  have h1 := HB.out.cp.has hp.1
  have h2 := HB.out.cp.rd hp.1
  clear hT hp hv hvM c2 c3 c4 hmay hO hsm hpl
  obtain ⟨Q, hQ⟩ : ∃ Q, Q = TakeRet w M F many most (L.map PkM.T) p := ⟨_, rfl⟩
  rw [← hQ]
  have HQ := Lib.hid hQ
  clear hQ
  go_enter Try.func51, Try.ntmps51
  go_wp2_with fail
  refine (HM.out _ (((Below.refl _ _).alloc (Nat.le_refl _) _).alloc (by simp) _)).mono ?_
  rintro e w3 ⟨rfl, hb3⟩
  rw [HMY.out]
  have HB3 : Hid (B1 p v F w.heap.size (w.heap.size + 1) w3) := Lib.hid (HB.out.below hb3)
  have HBW : Hid (Below w.heap.size w w3) := Lib.hid ((((Below.refl _ _).alloc (Nat.le_refl _) _).alloc (by simp) _ : Below w.heap.size w ((w.alloc (.cells #[.pointer (some ⟨F, 0, none⟩)] 85)).alloc (.cells (partA p v) 90))).trans (hb3.mono (by simp; omega)))
  have HT3 : Hid (TabL w3 M F many most lv L) := Lib.hid (HT.out.below HBW.out)
  obtain ⟨gp, hgp⟩ : ∃ g, g = w.heap.size + 1 := ⟨_, rfl⟩
  obtain ⟨gf, hgf⟩ : ∃ g, g = w.heap.size := ⟨_, rfl⟩
  have HGP := Lib.hid hgp
  have HGF := Lib.hid hgf
  rw [← hgp, ← hgf] at HB3
  rw [← hgp, ← hgf]
  clear HB HM hb3 hgp hgf h1 h2 n1 c1
  go_upto_region 3 with fail
  go_cut [7] (fun s7 wx => ∃ gn : Nat, s7 = .pointer (some ⟨gn, 0, none⟩) ∧ Hid (NmAt wx gn 0 p.nm ∧ gn = w3.heap.size ∧ gn < wx.heap.size ∧ Below w3.heap.size w3 wx))
  case first =>
    obtain ⟨q1, q2, q3, q4⟩ := HB3.out.cp.split HP.out.1
    have r1 := q1.has HP.out.1.1
    have r2 := q1.rd HP.out.1.1
    have r3 := q2.has HP.out.1.2
    have r4 := q2.rd HP.out.1.2
    have r5 := HP.out.1
    clear q1 q2
    go_wp2_with ((with_reducible refine wpList_build 121 (nameA p.nm) ?_ ?_); exact built121 p.nm HP.out.1)
    go_meet
    case rel => exact ⟨_, rfl, nm_new w3 _ p.nm HP.out.1⟩
  case rest =>
    obtain ⟨gn, rfl, HN⟩ := hcut
    have HBN : Hid (B1 p v F gf gp wc) := Lib.hid (HB3.out.below HN.out.2.2.2)
    have HTN : Hid (TabL wc M F many most lv L) := Lib.hid (HT3.out.below HN.out.2.2.2)
    obtain ⟨a, c, rfl, hlc, hc63, hix⟩ := ix_tab wc M F many most lv L p gn HTN.out HO.out HP.out HN.out.1
    have HIX := Lib.hid hix
    clear hix
    have k1 := HBN.out.cf
    have k2 := HTN.out.cells.2.2.1
    go_wp2_with fail
    refine HIX.out.mono ?_
    rintro e w4 ⟨rfl, hb4⟩
    have HB4 : Hid (B1 p v F gf gp w4) := Lib.hid (HBN.out.below hb4)
    have HT4 : Hid (TabL w4 M F many most (.slice a L.length c) L) := Lib.hid (HTN.out.below hb4)
    have HN4 : Hid (NmAt w4 gn 0 p.nm) := Lib.hid (HN.out.1.below hb4)
    have HW4 : Hid (Below w.heap.size w w4 ∧ gp < gn ∧ gn < w4.heap.size) := Lib.hid ⟨(HBW.out.then HN.out.2.2.2).then hb4, by have := HB3.out.ord.2; have := HN.out.2.1; omega, by have := HN.out.2.2.1; have := hb4.size; omega⟩
    clear hb4 k1 k2 HIX
    obtain ⟨R, hR⟩ : ∃ R, R = ixR (fun x : NameD × Value => decide (x.1 = p.nm)) (L.map PkM.row) := ⟨_, rfl⟩
    rw [← hR]
    have HR := Lib.hid hR
    clear hR
    go_upto_if 50 with fail
    obtain ⟨ga, hga⟩ : ∃ g, g = w4.heap.size := ⟨_, rfl⟩
    obtain ⟨w5, hw5⟩ : ∃ W, W = w4.alloc (.cells #[.int .i64 R] 3) := ⟨_, rfl⟩
    have HJ : Hid (J1 w M F many most (.slice a L.length c) L p v gf gp gn ga R w5) := Lib.hid (by
      rw [hw5, hga]
      exact j1_new HT4.out HB4.out HN4.out HW4.out.2.1 HW4.out.2.2 HW4.out.1 HT.out.sub (by rw [HGF.out]; exact Nat.le_refl _))
    rw [← hw5, ← hga]
    have HTS := Lib.hid HT.out.sub
    clear HT HT3 HTN HBN HB3 HBW HT4 HB4 HN4 HW4 HN HGP HGF hga hw5 hF hlc
    go_cut [] (fun wx => Hid (J2e w M F many most (L.map PkM.T) p v gf gp ga wx))
    case first =>
      rcases hfind : findPk (L.map PkM.T) p.nm with _ | i
      · obtain rfl : R = -1 := HR.out.trans (ix_none hfind)
        have HF := Lib.hid hfind
        clear hfind HR
        have hm1 : ¬ (many < 1) := by omega
        go_upto_region 7 with fail
        have q1 := HJ.out.b1.cf
        refine wp_region_held_drew (S := fun w' => S7 gf F many (.slice a L.length c) w') (by kernel_rfl) (s7_of HJ.out) (fun hHeld => ?_)
        refine' wpAnyH_take (i := 0) (v := _) rfl (by kernel_rfl) (by kernel_rfl) (by kernel_rfl) (fun _ _ _ h => h) (Or.inl ⟨by rfl, ?hy1⟩) hHeld ?rest1
        case hy1 => (intro w' hS; obtain ⟨s1, s2, s3⟩ := hS; (try simp only [List.getElem_toArray, List.getElem_cons_zero, List.getElem_cons_succ]); go_simp; try with_reducible rfl)
        try simp only [List.getElem_toArray, List.getElem_cons_zero, List.getElem_cons_succ, Act.put, List.setIfInBounds_toArray, List.set_cons_zero, List.set_cons_succ]
        refine' wpAnyH_take (i := 1) (v := _) rfl (by kernel_rfl) (by kernel_rfl) (by kernel_rfl) (fun _ _ _ h => h) (Or.inl ⟨by rfl, ?hy2⟩) hHeld ?rest2
        case hy2 => (intro w' hS; obtain ⟨s1, s2, s3⟩ := hS; (try simp only [List.getElem_toArray, List.getElem_cons_zero, List.getElem_cons_succ]); go_simp; try with_reducible rfl)
        try simp only [List.getElem_toArray, List.getElem_cons_zero, List.getElem_cons_succ, Act.put, List.setIfInBounds_toArray, List.set_cons_zero, List.set_cons_succ]
        refine' wpAnyH_take (i := 2) (v := _) rfl (by kernel_rfl) (by kernel_rfl) (by kernel_rfl) (fun _ _ _ h => h) (Or.inl ⟨by rfl, ?hy3⟩) hHeld ?rest3
        case hy3 => (intro w' hS; obtain ⟨s1, s2, s3⟩ := hS; (try simp only [List.getElem_toArray, List.getElem_cons_zero, List.getElem_cons_succ]); go_simp; try with_reducible rfl)
        try simp only [List.getElem_toArray, List.getElem_cons_zero, List.getElem_cons_succ, Act.put, List.setIfInBounds_toArray, List.set_cons_zero, List.set_cons_succ]
        refine' wpAnyH_take (i := 3) (v := _) rfl (by kernel_rfl) (by kernel_rfl) (by kernel_rfl) (fun _ _ _ h => h) (Or.inl ⟨by rfl, ?hy4⟩) hHeld ?rest4
        case hy4 => (intro w' hS; obtain ⟨s1, s2, s3⟩ := hS; (try simp only [List.getElem_toArray, List.getElem_cons_zero, List.getElem_cons_succ]); go_simp; try with_reducible rfl)
        try simp only [List.getElem_toArray, List.getElem_cons_zero, List.getElem_cons_succ, Act.put, List.setIfInBounds_toArray, List.set_cons_zero, List.set_cons_succ]
        refine' wpAnyH_take (i := 4) (v := _) rfl (by kernel_rfl) (by kernel_rfl) (by kernel_rfl) (fun _ _ _ h => h) (Or.inl ⟨by rfl, ?hy5⟩) hHeld ?rest5
        case hy5 => (intro w' hS; obtain ⟨s1, s2, s3⟩ := hS; (try simp only [List.getElem_toArray, List.getElem_cons_zero, List.getElem_cons_succ]); go_simp; try with_reducible rfl)
        try simp only [List.getElem_toArray, List.getElem_cons_zero, List.getElem_cons_succ, Act.put, List.setIfInBounds_toArray, List.set_cons_zero, List.set_cons_succ]
        refine' wpAnyH_take (i := 5) (v := _) rfl (by kernel_rfl) (by kernel_rfl) (by kernel_rfl) (fun _ _ _ h => h) (Or.inl ⟨by rfl, ?hy6⟩) hHeld ?rest6
        case hy6 => (intro w' hS; obtain ⟨s1, s2, s3⟩ := hS; (try simp only [List.getElem_toArray, List.getElem_cons_zero, List.getElem_cons_succ]); go_simp; try with_reducible rfl)
        try simp only [List.getElem_toArray, List.getElem_cons_zero, List.getElem_cons_succ, Act.put, List.setIfInBounds_toArray, List.set_cons_zero, List.set_cons_succ]
        refine' wpAnyH_take (i := 6) (v := _) rfl (by kernel_rfl) (by kernel_rfl) (by kernel_rfl) (fun _ _ _ h => h) (Or.inl ⟨by rfl, ?hy7⟩) hHeld ?rest7
        case hy7 => (intro w' hS; obtain ⟨s1, s2, s3⟩ := hS; (try simp only [List.getElem_toArray, List.getElem_cons_zero, List.getElem_cons_succ]); go_simp; try with_reducible rfl)
        try simp only [List.getElem_toArray, List.getElem_cons_zero, List.getElem_cons_succ, Act.put, List.setIfInBounds_toArray, List.set_cons_zero, List.set_cons_succ]
        refine' wpAnyH_take (i := 7) (v := _) rfl (by kernel_rfl) (by kernel_rfl) (by kernel_rfl) (fun _ _ _ h => h) (Or.inl ⟨by rfl, ?hy8⟩) hHeld ?rest8
        case hy8 => (intro w' hS; obtain ⟨s1, s2, s3⟩ := hS; (try simp only [List.getElem_toArray, List.getElem_cons_zero, List.getElem_cons_succ]); go_simp; try with_reducible rfl)
        try simp only [List.getElem_toArray, List.getElem_cons_zero, List.getElem_cons_succ, Act.put, List.setIfInBounds_toArray, List.set_cons_zero, List.set_cons_succ]
        refine' wpAnyH_take (i := 8) (v := _) rfl (by kernel_rfl) (by kernel_rfl) (by kernel_rfl) (fun _ _ _ h => h) (Or.inl ⟨by rfl, ?hy9⟩) hHeld ?rest9
        case hy9 => (intro w' hS; obtain ⟨s1, s2, s3⟩ := hS; (try simp only [List.getElem_toArray, List.getElem_cons_zero, List.getElem_cons_succ]); go_simp; try with_reducible rfl)
        try simp only [List.getElem_toArray, List.getElem_cons_zero, List.getElem_cons_succ, Act.put, List.setIfInBounds_toArray, List.set_cons_zero, List.set_cons_succ]
        refine' wpAnyH_take (i := 9) (v := _) rfl (by kernel_rfl) (by kernel_rfl) (by kernel_rfl) (fun _ _ _ h => h) (Or.inl ⟨by rfl, ?hy10⟩) hHeld ?rest10
        case hy10 => (intro w' hS; obtain ⟨s1, s2, s3⟩ := hS; (try simp only [List.getElem_toArray, List.getElem_cons_zero, List.getElem_cons_succ]); go_simp; try with_reducible rfl)
        try simp only [List.getElem_toArray, List.getElem_cons_zero, List.getElem_cons_succ, Act.put, List.setIfInBounds_toArray, List.set_cons_zero, List.set_cons_succ]
        refine wpAnyH_done (by kernel_rfl) ?_ _
        go_upto_if 60 with fail
        go_cut [] (fun wx => Hid (J1e w M F many most (roomed many (L.map PkM.T)) p v gf gp gn ga wx))
        case first =>
          by_cases hfull : many ≤ (L.length : Int)
          · go_upto_region 8 with fail
            have hne0 : 0 < L.length := by omega
            have HJ6 : Hid (J1 w M F many most (.slice a L.length c) L p v gf gp gn ga (-1) w5.drew) := Lib.hid HJ.out.drew
            obtain ⟨w6, hw6⟩ : ∃ W, W = w5.drew := ⟨_, rfl⟩
            rw [← hw6] at HJ6 ⊢
            clear HJ hw6 q1
            have HD := Lib.hid (delete_any w6.drew 0 L.length 0 (.slice a L.length c) (pkRow (L.map PkM.row)) HJ6.out.tab.own hne0 (pkRow_one _ (fun x hx => by obtain ⟨y, hy, rfl⟩ := List.mem_map.1 hx; exact own_one (HJ6.out.tab.rows y hy).1)))
            have H1 : Hid (some gf ≠ (Value.slice a L.length c).ownBlock) := Lib.hid (fun e => by
              have h1 := HTS.out gf (HJ6.out.tab.inl gf e.symm)
              have := HJ6.out.base; omega)
            have H3 : Hid (some F ≠ (Value.slice a L.length c).ownBlock) := Lib.hid (fun e => HJ6.out.tab.noF e.symm rfl)
            refine wp_region_held_drew (S := fun w' => S8 gf F w') (by kernel_rfl) (⟨HJ6.out.b1.cf, trivial⟩) (fun hHeld => ?_)
            refine' wpAnyH_take (i := 0) (v := _) rfl (by kernel_rfl) (by kernel_rfl) (by kernel_rfl) (fun _ _ _ h => h) (Or.inl ⟨by rfl, ?hy12⟩) hHeld ?rest12
            case hy12 => (intro w' hS; obtain ⟨s1, s2⟩ := hS; (try simp only [List.getElem_toArray, List.getElem_cons_zero, List.getElem_cons_succ]); go_simp; try with_reducible rfl)
            try simp only [List.getElem_toArray, List.getElem_cons_zero, List.getElem_cons_succ, Act.put, List.setIfInBounds_toArray, List.set_cons_zero, List.set_cons_succ]
            refine' wpAnyH_take (i := 1) (v := _) rfl (by kernel_rfl) (by kernel_rfl) (by kernel_rfl) (fun _ _ _ h => h) (Or.inl ⟨by rfl, ?hy13⟩) hHeld ?rest13
            case hy13 => (intro w' hS; obtain ⟨s1, s2⟩ := hS; (try simp only [List.getElem_toArray, List.getElem_cons_zero, List.getElem_cons_succ]); go_simp; try with_reducible rfl)
            try simp only [List.getElem_toArray, List.getElem_cons_zero, List.getElem_cons_succ, Act.put, List.setIfInBounds_toArray, List.set_cons_zero, List.set_cons_succ]
            refine' wpAnyH_take (i := 2) (v := _) rfl (by kernel_rfl) (by kernel_rfl) (by kernel_rfl) (fun _ _ _ h => h) (Or.inl ⟨by rfl, ?hy14⟩) hHeld ?rest14
            case hy14 => (intro w' hS; obtain ⟨s1, s2⟩ := hS; (try simp only [List.getElem_toArray, List.getElem_cons_zero, List.getElem_cons_succ]); go_simp; try with_reducible rfl)
            try simp only [List.getElem_toArray, List.getElem_cons_zero, List.getElem_cons_succ, Act.put, List.setIfInBounds_toArray, List.set_cons_zero, List.set_cons_succ]
            refine' wpAnyH_take (i := 3) (v := _) rfl (by kernel_rfl) (by kernel_rfl) (by kernel_rfl) (fun _ _ _ h => h) (Or.inl ⟨by rfl, ?hy15⟩) hHeld ?rest15
            case hy15 => (intro w' hS; obtain ⟨s1, s2⟩ := hS; (try simp only [List.getElem_toArray, List.getElem_cons_zero, List.getElem_cons_succ]); go_simp; try with_reducible rfl)
            try simp only [List.getElem_toArray, List.getElem_cons_zero, List.getElem_cons_succ, Act.put, List.setIfInBounds_toArray, List.set_cons_zero, List.set_cons_succ]
            refine wpAnyH_ready (rs := [4]) (by kernel_rfl) (by simp) ?_
            refine (AllReadyH.cons rfl (fun K hK => ?_) AllReadyH.nil)
            obtain ⟨s1, s2⟩ := hHeld
            have hF := HJ6.out.tab.cells.2.2.1
            go_simp
            clear hF s1
            go_wp2_with fail
            refine hK.out _ _ (⟨HJ6.out.b1.cf, trivial⟩) (fun hHeld => ?_)
            clear hK K
            try simp only [List.getElem_toArray, List.getElem_cons_zero, List.getElem_cons_succ, Act.put, List.setIfInBounds_toArray, List.set_cons_zero, List.set_cons_succ]
            refine wpAnyH_ready (rs := [5]) (by kernel_rfl) (by simp) ?_
            refine (AllReadyH.cons rfl (fun K hK => ?_) AllReadyH.nil)
            obtain ⟨s1, s2⟩ := hHeld
            go_simp
            refine HD.out.mono ?_
            rintro e w7 ⟨lv', rfl, hown', hgr, hob⟩
            obtain ⟨a', c', rfl, _, _⟩ := ownsRow_shape hown'
            have g1 := hgr.cell (a := ⟨gf, 0, none⟩) s1 H1.out
            have HO8 := Lib.hid hown'
            have HG8 := Lib.hid (grown_drew hgr)
            have HB8 := Lib.hid hob
            have G1 := Lib.hid g1
            clear hown' hgr hob s1 g1
            go_wp2_with fail
            refine hK.out _ _ (⟨G1.out, trivial⟩) (fun hHeld => ?_)
            clear hK K
            try simp only [List.getElem_toArray, List.getElem_cons_zero, List.getElem_cons_succ, Act.put, List.setIfInBounds_toArray, List.set_cons_zero, List.set_cons_succ]
            refine' wpAnyH_take (i := 6) (v := _) rfl (by kernel_rfl) (by kernel_rfl) (by kernel_rfl) (fun _ _ _ h => h) (Or.inl ⟨by rfl, ?hy18⟩) hHeld ?rest18
            case hy18 => (intro w' hS; obtain ⟨s1, s2⟩ := hS; (try simp only [List.getElem_toArray, List.getElem_cons_zero, List.getElem_cons_succ]); go_simp; try with_reducible rfl)
            try simp only [List.getElem_toArray, List.getElem_cons_zero, List.getElem_cons_succ, Act.put, List.setIfInBounds_toArray, List.set_cons_zero, List.set_cons_succ]
            refine' wpAnyH_take (i := 7) (v := _) rfl (by kernel_rfl) (by kernel_rfl) (by kernel_rfl) (fun _ _ _ h => h) (Or.inl ⟨by rfl, ?hy19⟩) hHeld ?rest19
            case hy19 => (intro w' hS; obtain ⟨s1, s2⟩ := hS; (try simp only [List.getElem_toArray, List.getElem_cons_zero, List.getElem_cons_succ]); go_simp; try with_reducible rfl)
            try simp only [List.getElem_toArray, List.getElem_cons_zero, List.getElem_cons_succ, Act.put, List.setIfInBounds_toArray, List.set_cons_zero, List.set_cons_succ]
            refine wpAnyH_ready (rs := [8]) (by kernel_rfl) (by simp) ?_
            refine (AllReadyH.cons rfl (fun K hK => ?_) AllReadyH.nil)
            obtain ⟨s1, s2⟩ := hHeld
            have hc2 := HG8.out.cell (a := ⟨F, 2, none⟩) HJ6.out.tab.cells.2.2.1 H3.out
            have hz2 : w7.frozen? ⟨F, 2, none⟩ = false := (World.frozen?_of_block (a := ⟨F, 2, none⟩) (HG8.out.block F (HJ6.out.tab.sub F HJ6.out.tab.inF) H3.out)).trans HJ6.out.tab.cells.2.2.2
            go_simp
            clear hc2 hz2 s1
            go_wp2_with fail
            refine hK.out _ _ (⟨(World.cell?_setCell_other w7 ⟨F, 2, none⟩ ⟨gf, 0, none⟩ _ (by simp)).trans G1.out, trivial⟩) (fun hHeld => ?_)
            clear hK K
            try simp only [List.getElem_toArray, List.getElem_cons_zero, List.getElem_cons_succ, Act.put, List.setIfInBounds_toArray, List.set_cons_zero, List.set_cons_succ]
            refine wpAnyH_done (by kernel_rfl) ?_ _
            go_wp2_with fail
            go_meet
            case rel => exact Lib.hid (j1_gone HJ6.out HO8.out HG8.out HB8.out hne0 (by rw [List.length_map]; exact hfull) (fun x hx => (HO.out.ok x.T (List.mem_map_of_mem hx)).1.fit.1))
          · go_wp2_with fail
            go_meet
            case rel => exact Lib.hid ⟨_, _, HJ.out.drew, (if_neg (by rw [List.length_map]; omega)).symm⟩
        case rest =>
          obtain ⟨lv1, L1, J, hL1⟩ := hcut.out
          have HJ1 := Lib.hid J
          have HL1 := Lib.hid hL1
          clear J hL1
          obtain ⟨a1, c1, rfl, hl1, hc1⟩ := ownsRow_shape HJ1.out.tab.own
          have HLN : Hid (L1.length ≤ 1048576) := Lib.hid (by
            have h1 : L1.length = (roomed many (L.map PkM.T)).length := by rw [← HL1.out, List.length_map]
            rw [h1]
            refine Nat.le_trans roomed_len ?_
            rw [List.length_map]; exact HSM.out)
          have q2 := HJ1.out.b1.cf
          have q3 := HJ1.out.tab.cells.2.2.1
          have q4 := HJ1.out.ca
          have q5 := HJ1.out.fa
          clear q1 HJ
          go_upto_region 10 with fail
          have HJ9 : Hid (J1 w M F many most (.slice a1 L1.length c1) L1 p v gf gp gn ga L1.length (wc.setCell ⟨ga, 0, none⟩ (.int .i64 L1.length))) := Lib.hid (HJ1.out.setA L1.length)
          obtain ⟨w9, hw9⟩ : ∃ W, W = wc.setCell ⟨ga, 0, none⟩ (.int .i64 L1.length) := ⟨_, rfl⟩
          rw [← hw9] at HJ9 ⊢
          clear hw9 HJ1 q2 q3 q4 q5
          obtain ⟨lv2, w11, hrun, hown2, hgr2, hob2⟩ := app_run w9 (.slice a1 L1.length c1) L1 p.nm HP.out.1 HJ9.out.tab.own HLN.out
          obtain ⟨a2, c2, rfl, _, _⟩ := ownsRow_shape hown2
          have HRUN := Lib.hid hrun
          have HO2 := Lib.hid hown2
          have HG2 := Lib.hid hgr2
          have HB2 := Lib.hid hob2
          clear hrun hown2 hgr2 hob2
          have H1 : Hid (some gf ≠ (Value.slice a1 L1.length c1).ownBlock) := Lib.hid (fun e => by
            have h1 := HTS.out gf (HJ9.out.tab.inl gf e.symm)
            have := HJ9.out.base; omega)
          have H3 : Hid (some F ≠ (Value.slice a1 L1.length c1).ownBlock) := Lib.hid (fun e => HJ9.out.tab.noF e.symm rfl)
          have HGN : Hid (some gn ≠ (Value.slice a1 L1.length c1).ownBlock) := Lib.hid (fun e => by
            have h1 := HTS.out gn (HJ9.out.tab.inl gn e.symm)
            have h2 := HJ9.out.ord
            have h3 := HJ9.out.b1.ord
            have := HJ9.out.base; omega)
          have hok := HP.out.1
          refine wp_region_held_drew (S := fun w' => S10 gf gn F p.nm w') (by kernel_rfl) (s10_of HJ9.out HP.out.1) (fun hHeld => ?_)
          refine' wpAnyH_take (i := 0) (v := _) rfl (by kernel_rfl) (by kernel_rfl) (by kernel_rfl) (fun _ _ _ h => h) (Or.inl ⟨by rfl, ?hy22⟩) hHeld ?rest22
          case hy22 => (intro w' hS; obtain ⟨s1, s2, s3⟩ := hS; (try simp only [List.getElem_toArray, List.getElem_cons_zero, List.getElem_cons_succ]); go_simp; try with_reducible rfl)
          try simp only [List.getElem_toArray, List.getElem_cons_zero, List.getElem_cons_succ, Act.put, List.setIfInBounds_toArray, List.set_cons_zero, List.set_cons_succ]
          refine' wpAnyH_take (i := 1) (v := _) rfl (by kernel_rfl) (by kernel_rfl) (by kernel_rfl) (fun _ _ _ h => h) (Or.inl ⟨by rfl, ?hy23⟩) hHeld ?rest23
          case hy23 => (intro w' hS; obtain ⟨s1, s2, s3⟩ := hS; (try simp only [List.getElem_toArray, List.getElem_cons_zero, List.getElem_cons_succ]); go_simp; try with_reducible rfl)
          try simp only [List.getElem_toArray, List.getElem_cons_zero, List.getElem_cons_succ, Act.put, List.setIfInBounds_toArray, List.set_cons_zero, List.set_cons_succ]
          refine' wpAnyH_take (i := 2) (v := _) rfl (by kernel_rfl) (by kernel_rfl) (by kernel_rfl) (fun _ _ _ h => h) (Or.inl ⟨by rfl, ?hy24⟩) hHeld ?rest24
          case hy24 => (intro w' hS; obtain ⟨s1, s2, s3⟩ := hS; (try simp only [List.getElem_toArray, List.getElem_cons_zero, List.getElem_cons_succ]); go_simp; try with_reducible rfl)
          try simp only [List.getElem_toArray, List.getElem_cons_zero, List.getElem_cons_succ, Act.put, List.setIfInBounds_toArray, List.set_cons_zero, List.set_cons_succ]
          refine' wpAnyH_take (i := 3) (v := _) rfl (by kernel_rfl) (by kernel_rfl) (by kernel_rfl) (fun _ _ _ h => h) (Or.inl ⟨by rfl, ?hy25⟩) hHeld ?rest25
          case hy25 => (intro w' hS; obtain ⟨s1, s2, s3⟩ := hS; (try simp only [List.getElem_toArray, List.getElem_cons_zero, List.getElem_cons_succ]); go_simp; try with_reducible rfl)
          try simp only [List.getElem_toArray, List.getElem_cons_zero, List.getElem_cons_succ, Act.put, List.setIfInBounds_toArray, List.set_cons_zero, List.set_cons_succ]
          refine' wpAnyH_take (i := 5) (v := _) rfl (by kernel_rfl) (by kernel_rfl) (by kernel_rfl) (fun _ _ _ h => h) (Or.inl ⟨by rfl, ?hy26⟩) hHeld ?rest26
          case hy26 => (intro w' hS; obtain ⟨s1, s2, s3⟩ := hS; (try simp only [List.getElem_toArray, List.getElem_cons_zero, List.getElem_cons_succ]); go_simp; try with_reducible rfl)
          try simp only [List.getElem_toArray, List.getElem_cons_zero, List.getElem_cons_succ, Act.put, List.setIfInBounds_toArray, List.set_cons_zero, List.set_cons_succ]
          refine' wpAnyH_take (i := 6) (v := _) rfl (by kernel_rfl) (by kernel_rfl) (by kernel_rfl) (fun _ _ _ h => h) (Or.inl ⟨by rfl, ?hy27⟩) hHeld ?rest27
          case hy27 => (intro w' hS; obtain ⟨s1, s2, s3⟩ := hS; (try simp only [List.getElem_toArray, List.getElem_cons_zero, List.getElem_cons_succ]); go_simp; try with_reducible rfl)
          try simp only [List.getElem_toArray, List.getElem_cons_zero, List.getElem_cons_succ, Act.put, List.setIfInBounds_toArray, List.set_cons_zero, List.set_cons_succ]
          refine wpAnyH_ready (rs := [4, 7]) (by kernel_rfl) (by simp) ?_
          refine (AllReadyH.cons rfl (fun K hK => ?_) (AllReadyH.cons rfl (fun K hK => ?_) AllReadyH.nil))
          · obtain ⟨s1, s2, s3⟩ := hHeld
            have hF := HJ9.out.tab.cells.2.2.1
            go_simp
            clear hF s1 s2 s3
            go_wp2_with fail
            refine hK.out _ _ (s10_of HJ9.out HP.out.1) (fun hHeld => ?_)
            clear hK K
            try simp only [List.getElem_toArray, List.getElem_cons_zero, List.getElem_cons_succ, Act.put, List.setIfInBounds_toArray, List.set_cons_zero, List.set_cons_succ]
            refine wpAnyH_ready (rs := [7]) (by kernel_rfl) (by simp) ?_
            refine (AllReadyH.cons rfl (fun K hK => ?_) AllReadyH.nil)
            obtain ⟨s1, s2, s3⟩ := hHeld
            go_simp
            clear s1 s2 s3
            go_wp2_with fail
            refine hK.out _ _ (s10_alloc HJ9.out HP.out.1) (fun hHeld => ?_)
            clear hK K
            try simp only [List.getElem_toArray, List.getElem_cons_zero, List.getElem_cons_succ, Act.put, List.setIfInBounds_toArray, List.set_cons_zero, List.set_cons_succ]
            refine wpAnyH_ready (rs := [8]) (by kernel_rfl) (by simp) ?_
            refine (AllReadyH.cons rfl (fun K hK => ?_) AllReadyH.nil)
            obtain ⟨s1, s2, s3⟩ := hHeld
            refine step_append_runI rfl (.tmp 78) (.tmp 81) 113 113 rfl _ _ (by first | rfl | simp [Act.eval, Act.put]) (by first | rfl | simp [Act.eval, Act.put]) HRUN.out ?_
            have G10 : Hid (S10 gf gn F p.nm w11) := Lib.hid (s10_grown HJ9.out HP.out.1 HG2.out H1.out HGN.out)
            clear s1 s2 s3
            go_wp2_with fail
            refine hK.out _ _ (G10.out) (fun hHeld => ?_)
            clear hK K
            try simp only [List.getElem_toArray, List.getElem_cons_zero, List.getElem_cons_succ, Act.put, List.setIfInBounds_toArray, List.set_cons_zero, List.set_cons_succ]
            refine' wpAnyH_take (i := 9) (v := _) rfl (by kernel_rfl) (by kernel_rfl) (by kernel_rfl) (fun _ _ _ h => h) (Or.inl ⟨by rfl, ?hy31⟩) hHeld ?rest31
            case hy31 => (intro w' hS; obtain ⟨s1, s2, s3⟩ := hS; (try simp only [List.getElem_toArray, List.getElem_cons_zero, List.getElem_cons_succ]); go_simp; try with_reducible rfl)
            try simp only [List.getElem_toArray, List.getElem_cons_zero, List.getElem_cons_succ, Act.put, List.setIfInBounds_toArray, List.set_cons_zero, List.set_cons_succ]
            refine' wpAnyH_take (i := 10) (v := _) rfl (by kernel_rfl) (by kernel_rfl) (by kernel_rfl) (fun _ _ _ h => h) (Or.inl ⟨by rfl, ?hy32⟩) hHeld ?rest32
            case hy32 => (intro w' hS; obtain ⟨s1, s2, s3⟩ := hS; (try simp only [List.getElem_toArray, List.getElem_cons_zero, List.getElem_cons_succ]); go_simp; try with_reducible rfl)
            try simp only [List.getElem_toArray, List.getElem_cons_zero, List.getElem_cons_succ, Act.put, List.setIfInBounds_toArray, List.set_cons_zero, List.set_cons_succ]
            refine wpAnyH_ready (rs := [11]) (by kernel_rfl) (by simp) ?_
            refine (AllReadyH.cons rfl (fun K hK => ?_) AllReadyH.nil)
            obtain ⟨s1, s2, s3⟩ := hHeld
            have hc2 : w11.cell? ⟨F, 2, none⟩ = some (.slice a1 L1.length c1) := HG2.out.cell (a := ⟨F, 2, none⟩) (below_cells (below_alloc w9 _) _ _ HJ9.out.tab.cells.2.2.1) H3.out
            have hz2 : w11.frozen? ⟨F, 2, none⟩ = false := z10_grown HJ9.out HG2.out H3.out
            go_simp
            clear hc2 hz2 s1 s2 s3
            go_wp2_with fail
            refine hK.out _ _ (s10_set HJ9.out HP.out.1 HG2.out H1.out HGN.out) (fun hHeld => ?_)
            clear hK K
            try simp only [List.getElem_toArray, List.getElem_cons_zero, List.getElem_cons_succ, Act.put, List.setIfInBounds_toArray, List.set_cons_zero, List.set_cons_succ]
            refine wpAnyH_done (by kernel_rfl) ?_ _
            go_wp2_with fail
            go_meet
            case rel => exact Lib.hid (j2_new HJ9.out HO.out HL1.out HF.out hm HMY.out HP.out HO2.out HG2.out HB2.out)
          · obtain ⟨s1, s2, s3⟩ := hHeld
            go_simp
            clear s1 s2 s3
            go_wp2_with fail
            refine hK.out _ _ (s10_alloc HJ9.out HP.out.1) (fun hHeld => ?_)
            clear hK K
            try simp only [List.getElem_toArray, List.getElem_cons_zero, List.getElem_cons_succ, Act.put, List.setIfInBounds_toArray, List.set_cons_zero, List.set_cons_succ]
            refine wpAnyH_ready (rs := [4]) (by kernel_rfl) (by simp) ?_
            refine (AllReadyH.cons rfl (fun K hK => ?_) AllReadyH.nil)
            obtain ⟨s1, s2, s3⟩ := hHeld
            have hF : (w9.alloc (.cells (pkA p.nm (.slice none 0 0)) 124)).cell? ⟨F, 2, none⟩ = some (.slice a1 L1.length c1) := below_cells (below_alloc w9 _) _ _ HJ9.out.tab.cells.2.2.1
            go_simp
            clear hF s1 s2 s3
            go_wp2_with fail
            refine hK.out _ _ (s10_alloc HJ9.out HP.out.1) (fun hHeld => ?_)
            clear hK K
            try simp only [List.getElem_toArray, List.getElem_cons_zero, List.getElem_cons_succ, Act.put, List.setIfInBounds_toArray, List.set_cons_zero, List.set_cons_succ]
            refine wpAnyH_ready (rs := [8]) (by kernel_rfl) (by simp) ?_
            refine (AllReadyH.cons rfl (fun K hK => ?_) AllReadyH.nil)
            obtain ⟨s1, s2, s3⟩ := hHeld
            refine step_append_runI rfl (.tmp 78) (.tmp 81) 113 113 rfl _ _ (by first | rfl | simp [Act.eval, Act.put]) (by first | rfl | simp [Act.eval, Act.put]) HRUN.out ?_
            have G10 : Hid (S10 gf gn F p.nm w11) := Lib.hid (s10_grown HJ9.out HP.out.1 HG2.out H1.out HGN.out)
            clear s1 s2 s3
            go_wp2_with fail
            refine hK.out _ _ (G10.out) (fun hHeld => ?_)
            clear hK K
            try simp only [List.getElem_toArray, List.getElem_cons_zero, List.getElem_cons_succ, Act.put, List.setIfInBounds_toArray, List.set_cons_zero, List.set_cons_succ]
            refine' wpAnyH_take (i := 9) (v := _) rfl (by kernel_rfl) (by kernel_rfl) (by kernel_rfl) (fun _ _ _ h => h) (Or.inl ⟨by rfl, ?hy37⟩) hHeld ?rest37
            case hy37 => (intro w' hS; obtain ⟨s1, s2, s3⟩ := hS; (try simp only [List.getElem_toArray, List.getElem_cons_zero, List.getElem_cons_succ]); go_simp; try with_reducible rfl)
            try simp only [List.getElem_toArray, List.getElem_cons_zero, List.getElem_cons_succ, Act.put, List.setIfInBounds_toArray, List.set_cons_zero, List.set_cons_succ]
            refine' wpAnyH_take (i := 10) (v := _) rfl (by kernel_rfl) (by kernel_rfl) (by kernel_rfl) (fun _ _ _ h => h) (Or.inl ⟨by rfl, ?hy38⟩) hHeld ?rest38
            case hy38 => (intro w' hS; obtain ⟨s1, s2, s3⟩ := hS; (try simp only [List.getElem_toArray, List.getElem_cons_zero, List.getElem_cons_succ]); go_simp; try with_reducible rfl)
            try simp only [List.getElem_toArray, List.getElem_cons_zero, List.getElem_cons_succ, Act.put, List.setIfInBounds_toArray, List.set_cons_zero, List.set_cons_succ]
            refine wpAnyH_ready (rs := [11]) (by kernel_rfl) (by simp) ?_
            refine (AllReadyH.cons rfl (fun K hK => ?_) AllReadyH.nil)
            obtain ⟨s1, s2, s3⟩ := hHeld
            have hc2 : w11.cell? ⟨F, 2, none⟩ = some (.slice a1 L1.length c1) := HG2.out.cell (a := ⟨F, 2, none⟩) (below_cells (below_alloc w9 _) _ _ HJ9.out.tab.cells.2.2.1) H3.out
            have hz2 : w11.frozen? ⟨F, 2, none⟩ = false := z10_grown HJ9.out HG2.out H3.out
            go_simp
            clear hc2 hz2 s1 s2 s3
            go_wp2_with fail
            refine hK.out _ _ (s10_set HJ9.out HP.out.1 HG2.out H1.out HGN.out) (fun hHeld => ?_)
            clear hK K
            try simp only [List.getElem_toArray, List.getElem_cons_zero, List.getElem_cons_succ, Act.put, List.setIfInBounds_toArray, List.set_cons_zero, List.set_cons_succ]
            refine wpAnyH_done (by kernel_rfl) ?_ _
            go_wp2_with fail
            go_meet
            case rel => exact Lib.hid (j2_new HJ9.out HO.out HL1.out HF.out hm HMY.out HP.out HO2.out HG2.out HB2.out)
      · obtain rfl : R = i := HR.out.trans (ix_some hfind)
        have HF := Lib.hid hfind
        clear hfind HR
        go_wp2_with fail
        go_meet
        case rel => exact Lib.hid (j2_found HJ.out HO.out HF.out hm HMY.out)
    case rest =>
      obtain ⟨lv', L', i, x, J⟩ := hcut.out
      have HJ := Lib.hid J
      clear J
      obtain ⟨gl, cl, rfl, hlc, hcl, hil⟩ := HJ.out.shape
      have hi0 : (0 : Int) ≤ (i : Int) := by omega
      have hi1 : (i : Int) < (L'.length : Int) := by omega
      have HOKS := Lib.hid (oks_of HJ.out.pre)
      have HB : Hid (Bs wc v p.bs) := Lib.hid (HV.out.only HJ.out.only HVM.out)
      go_upto_region 11 with fail
      refine wp_region_held_drew (S := fun w' => S11 gf F ga i (.slice (some ⟨gl, 0, none⟩) L'.length cl) w') (by kernel_rfl) (⟨HJ.out.b1.cf, HJ.out.tab.cells.2.2.1, HJ.out.ca⟩) (fun hHeld => ?_)
      refine' wpAnyH_take (i := 0) (v := _) rfl (by kernel_rfl) (by kernel_rfl) (by kernel_rfl) (fun _ _ _ h => h) (Or.inl ⟨by rfl, ?hy41⟩) hHeld ?rest41
      case hy41 => (intro w' hS; obtain ⟨s1, s2, s3⟩ := hS; (try simp only [List.getElem_toArray, List.getElem_cons_zero, List.getElem_cons_succ]); go_simp; try with_reducible rfl)
      try simp only [List.getElem_toArray, List.getElem_cons_zero, List.getElem_cons_succ, Act.put, List.setIfInBounds_toArray, List.set_cons_zero, List.set_cons_succ]
      refine' wpAnyH_take (i := 1) (v := _) rfl (by kernel_rfl) (by kernel_rfl) (by kernel_rfl) (fun _ _ _ h => h) (Or.inl ⟨by rfl, ?hy42⟩) hHeld ?rest42
      case hy42 => (intro w' hS; obtain ⟨s1, s2, s3⟩ := hS; (try simp only [List.getElem_toArray, List.getElem_cons_zero, List.getElem_cons_succ]); go_simp; try with_reducible rfl)
      try simp only [List.getElem_toArray, List.getElem_cons_zero, List.getElem_cons_succ, Act.put, List.setIfInBounds_toArray, List.set_cons_zero, List.set_cons_succ]
      refine' wpAnyH_take (i := 2) (v := _) rfl (by kernel_rfl) (by kernel_rfl) (by kernel_rfl) (fun _ _ _ h => h) (Or.inl ⟨by rfl, ?hy43⟩) hHeld ?rest43
      case hy43 => (intro w' hS; obtain ⟨s1, s2, s3⟩ := hS; (try simp only [List.getElem_toArray, List.getElem_cons_zero, List.getElem_cons_succ]); go_simp; try with_reducible rfl)
      try simp only [List.getElem_toArray, List.getElem_cons_zero, List.getElem_cons_succ, Act.put, List.setIfInBounds_toArray, List.set_cons_zero, List.set_cons_succ]
      refine' wpAnyH_take (i := 3) (v := _) rfl (by kernel_rfl) (by kernel_rfl) (by kernel_rfl) (fun _ _ _ h => h) (Or.inl ⟨by rfl, ?hy44⟩) hHeld ?rest44
      case hy44 => (intro w' hS; obtain ⟨s1, s2, s3⟩ := hS; (try simp only [List.getElem_toArray, List.getElem_cons_zero, List.getElem_cons_succ]); go_simp; try with_reducible rfl)
      try simp only [List.getElem_toArray, List.getElem_cons_zero, List.getElem_cons_succ, Act.put, List.setIfInBounds_toArray, List.set_cons_zero, List.set_cons_succ]
      refine' wpAnyH_take (i := 4) (v := _) rfl (by kernel_rfl) (by kernel_rfl) (by kernel_rfl) (fun _ _ _ h => h) (Or.inl ⟨by rfl, ?hy45⟩) hHeld ?rest45
      case hy45 => (intro w' hS; obtain ⟨s1, s2, s3⟩ := hS; (try simp only [List.getElem_toArray, List.getElem_cons_zero, List.getElem_cons_succ]); go_simp; try with_reducible rfl)
      try simp only [List.getElem_toArray, List.getElem_cons_zero, List.getElem_cons_succ, Act.put, List.setIfInBounds_toArray, List.set_cons_zero, List.set_cons_succ]
      refine' wpAnyH_take (i := 5) (v := _) rfl (by kernel_rfl) (by kernel_rfl) (by kernel_rfl) (fun _ _ _ h => h) (Or.inl ⟨by rfl, ?hy46⟩) hHeld ?rest46
      case hy46 => (intro w' hS; obtain ⟨s1, s2, s3⟩ := hS; (try simp only [List.getElem_toArray, List.getElem_cons_zero, List.getElem_cons_succ]); go_simp; try with_reducible rfl)
      try simp only [List.getElem_toArray, List.getElem_cons_zero, List.getElem_cons_succ, Act.put, List.setIfInBounds_toArray, List.set_cons_zero, List.set_cons_succ]
      refine' wpAnyH_take (i := 6) (v := _) rfl (by kernel_rfl) (by kernel_rfl) (by kernel_rfl) (fun _ _ _ h => h) (Or.inl ⟨by rfl, ?hy47⟩) hHeld ?rest47
      case hy47 => (intro w' hS; obtain ⟨s1, s2, s3⟩ := hS; (try simp only [List.getElem_toArray, List.getElem_cons_zero, List.getElem_cons_succ]); go_simp; try with_reducible rfl)
      try simp only [List.getElem_toArray, List.getElem_cons_zero, List.getElem_cons_succ, Act.put, List.setIfInBounds_toArray, List.set_cons_zero, List.set_cons_succ]
      refine wpAnyH_done (by kernel_rfl) ?_ _
      have HJ6 : Hid (J2 w M F many most (L.map PkM.T) p v gf gp ga wc.drew (.slice (some ⟨gl, 0, none⟩) L'.length cl) L' i x) := Lib.hid (HJ.out.below (drew_below wc))
      have HB6 : Hid (Bs wc.drew v p.bs) := Lib.hid (HB.out.below (drew_below wc))
      obtain ⟨w6, hw6⟩ : ∃ W, W = wc.drew := ⟨_, rfl⟩
      rw [← hw6] at HJ6 HB6 ⊢
      clear HJ HB hw6
      obtain ⟨q1, _⟩ := tab_cell HJ6.out.tab rfl (fun y hy => (HOKS.out y hy).1) HJ6.out.at_
      have HX := Lib.hid (And.intro q1 trivial)
      obtain ⟨ax, cx, hxv, hx1, hx2, hsame⟩ := same_call HJ6.out HP.out.1 HB6.out
      rw [hxv] at q1
      have HXV := Lib.hid hxv
      obtain ⟨r1, hr1⟩ : ∃ r, r = (x.ps.map (·.1)).any (sameB p) := ⟨_, rfl⟩
      rw [← hr1] at hsame
      have HSAME := Lib.hid hsame
      have HR1 := Lib.hid hr1
      clear hxv hsame hr1
      go_wp2_with fail
      refine HSAME.out.mono ?_
      rintro e w7 ⟨rfl, hb7⟩
      have HJ7 : Hid (J2 w M F many most (L.map PkM.T) p v gf gp ga w7 (.slice (some ⟨gl, 0, none⟩) L'.length cl) L' i x) := Lib.hid (HJ6.out.below hb7)
      have HB7 : Hid (Bs w7 v p.bs) := Lib.hid (HB6.out.below hb7)
      clear HJ6 HB6 HSAME hb7 q1 HX
      rcases r1 with _ | _
      · have HSB := Lib.hid HR1.out.symm
        clear HR1
        obtain ⟨q1, _⟩ := tab_cell HJ7.out.tab rfl (fun y hy => (HOKS.out y hy).1) HJ7.out.at_
        rw [HXV.out] at q1
        obtain ⟨ax', cx', hxv, _, _, hcl⟩ := clash_call HJ7.out HP.out.1 HB7.out HMY.out hmost
        rw [HXV.out] at hxv
        cases hxv
        obtain ⟨r2, hr2⟩ : ∃ r, r = (x.ps.map (·.1)).any (clashB p) := ⟨_, rfl⟩
        rw [← hr2] at hcl
        have HCL := Lib.hid hcl
        have HR2 := Lib.hid hr2
        clear hcl hr2
        go_wp2_with fail
        refine HCL.out.mono ?_
        rintro e w8 ⟨rfl, hb8⟩
        have HJ8 : Hid (J2 w M F many most (L.map PkM.T) p v gf gp ga w8 (.slice (some ⟨gl, 0, none⟩) L'.length cl) L' i x) := Lib.hid (HJ7.out.below hb8)
        have HB8 : Hid (Bs w8 v p.bs) := Lib.hid (HB7.out.below hb8)
        clear HJ7 HB7 HCL hb8 q1
        rcases r2 with _ | _
        · have HCB := Lib.hid HR2.out.symm
          clear HR2
          have q2 := HJ8.out.b1.cp.has HP.out.1
          have q3 : w8.cell? ⟨gp, 38, none⟩ = some v := by have := (HJ8.out.b1.cp.cells HP.out.1).2.2; rwa [Nat.zero_add] at this
          have HCLN := Lib.hid (clone_any w8 v p.bs HB8.out (by have := HPL.out; omega))
          go_wp2_with fail
          refine HCLN.out.mono ?_
          rintro e w9 ⟨v2, rfl, hown9, hb9⟩
          have HJ9 : Hid (J2 w M F many most (L.map PkM.T) p v gf gp ga w9 (.slice (some ⟨gl, 0, none⟩) L'.length cl) L' i x) := Lib.hid (HJ8.out.below hb9)
          have HO9 := Lib.hid hown9
          have HB9 := Lib.hid hb9
          obtain ⟨a2, c2, rfl, hc2, hc263⟩ := ownsRow_shape hown9
          have q4 : w9.cell? ⟨gp, 38, none⟩ = some v := below_cells hb9 _ _ q3
          have q5 := HJ9.out.b1.fp
          clear q2 q3 hown9 hb9 HCLN
          go_upto_region 18 with fail
          have HJ10 := Lib.hid (HJ9.out.setB HP.out.1 (.slice a2 p.bs.length c2))
          have HO10 : Hid (Own (w9.setCell ⟨gp, 38, none⟩ (.slice a2 p.bs.length c2)) 0 (.slice a2 p.bs.length c2) p.bs ∧ ∀ k, (Value.slice a2 p.bs.length c2).ownBlock = some k → Mx M ga (w9.setCell ⟨gp, 38, none⟩ (.slice a2 p.bs.length c2)) k) := Lib.hid (own_setB HJ8.out HB9.out HO9.out)
          obtain ⟨w10, hw10⟩ : ∃ W, W = w9.setCell ⟨gp, 38, none⟩ (.slice a2 p.bs.length c2) := ⟨_, rfl⟩
          rw [← hw10] at HJ10 HO10 ⊢
          clear hw10 q4 q5 HJ9 HO9 HB9
          have HXS : Hid (x.ps.length ≤ 1048576) := Lib.hid (j2_small HJ10.out HSMT.out)
          obtain ⟨ax', cx', hxv, _, _, hbs⟩ := bs_call (HJ10.out.below (drew_below w10)) HP.out.1 HMY.out hmost HXS.out
          rw [HXV.out] at hxv
          cases hxv
          obtain ⟨bi, hbi⟩ : ∃ b, b = bsI p.pos x.ps := ⟨_, rfl⟩
          rw [← hbi] at hbs
          have HBI := Lib.hid hbi
          have HBS := Lib.hid hbs
          have HCX := Lib.hid (tab_cell HJ10.out.tab rfl (fun y hy => (HOKS.out y hy).1) HJ10.out.at_).1
          rw [HXV.out] at HCX
          clear hbi hbs
          refine wp_region_held_drew (S := fun w' => S18 gl i gp p (.slice ax x.ps.length cx) (.slice a2 p.bs.length c2) w') (by kernel_rfl) (s18_below HJ10.out HP.out.1 HCX.out (drew_below w10)) (fun hHeld => ?_)
          refine' wpAnyH_take (i := 0) (v := _) rfl (by kernel_rfl) (by kernel_rfl) (by kernel_rfl) (fun _ _ _ h => h) (Or.inl ⟨by rfl, ?hy49⟩) hHeld ?rest49
          case hy49 => (intro w' hS; obtain ⟨s1, s2, s3⟩ := hS; (try simp only [List.getElem_toArray, List.getElem_cons_zero, List.getElem_cons_succ]); go_simp; try with_reducible rfl)
          try simp only [List.getElem_toArray, List.getElem_cons_zero, List.getElem_cons_succ, Act.put, List.setIfInBounds_toArray, List.set_cons_zero, List.set_cons_succ]
          refine' wpAnyH_take (i := 1) (v := _) rfl (by kernel_rfl) (by kernel_rfl) (by kernel_rfl) (fun _ _ _ h => h) (Or.inl ⟨by rfl, ?hy50⟩) hHeld ?rest50
          case hy50 => (intro w' hS; obtain ⟨s1, s2, s3⟩ := hS; (try simp only [List.getElem_toArray, List.getElem_cons_zero, List.getElem_cons_succ]); go_simp; try with_reducible rfl)
          try simp only [List.getElem_toArray, List.getElem_cons_zero, List.getElem_cons_succ, Act.put, List.setIfInBounds_toArray, List.set_cons_zero, List.set_cons_succ]
          refine' wpAnyH_take (i := 2) (v := _) rfl (by kernel_rfl) (by kernel_rfl) (by kernel_rfl) (fun _ _ _ h => h) (Or.inl ⟨by rfl, ?hy51⟩) hHeld ?rest51
          case hy51 => (intro w' hS; obtain ⟨s1, s2, s3⟩ := hS; (try simp only [List.getElem_toArray, List.getElem_cons_zero, List.getElem_cons_succ]); go_simp; try with_reducible rfl)
          try simp only [List.getElem_toArray, List.getElem_cons_zero, List.getElem_cons_succ, Act.put, List.setIfInBounds_toArray, List.set_cons_zero, List.set_cons_succ]
          refine' wpAnyH_take (i := 3) (v := _) rfl (by kernel_rfl) (by kernel_rfl) (by kernel_rfl) (fun _ _ _ h => h) (Or.inl ⟨by rfl, ?hy52⟩) hHeld ?rest52
          case hy52 => (intro w' hS; obtain ⟨s1, s2, s3⟩ := hS; (try simp only [List.getElem_toArray, List.getElem_cons_zero, List.getElem_cons_succ]); go_simp; try with_reducible rfl)
          try simp only [List.getElem_toArray, List.getElem_cons_zero, List.getElem_cons_succ, Act.put, List.setIfInBounds_toArray, List.set_cons_zero, List.set_cons_succ]
          refine' wpAnyH_take (i := 4) (v := _) rfl (by kernel_rfl) (by kernel_rfl) (by kernel_rfl) (fun _ _ _ h => h) (Or.inl ⟨by rfl, ?hy53⟩) hHeld ?rest53
          case hy53 => (intro w' hS; obtain ⟨s1, s2, s3⟩ := hS; (try simp only [List.getElem_toArray, List.getElem_cons_zero, List.getElem_cons_succ]); go_simp; try with_reducible rfl)
          try simp only [List.getElem_toArray, List.getElem_cons_zero, List.getElem_cons_succ, Act.put, List.setIfInBounds_toArray, List.set_cons_zero, List.set_cons_succ]
          refine wpAnyH_ready (rs := [5]) (by kernel_rfl) (by simp) ?_
          refine (AllReadyH.cons rfl (fun K hK => ?_) AllReadyH.nil)
          obtain ⟨s1, s2, s3⟩ := hHeld
          go_simp
          refine HBS.out.mono ?_
          rintro e w11 ⟨⟨r, rfl⟩, hb11⟩
          have HB11 := Lib.hid ((drew_below w10).then hb11)
          have G18 : Hid (S18 gl i gp p (.slice ax x.ps.length cx) (.slice a2 p.bs.length c2) w11) := Lib.hid (s18_below HJ10.out HP.out.1 HCX.out HB11.out)
          clear hb11 s1 s2 s3
          go_wp2_with fail
          refine hK.out _ _ (G18.out) (fun hHeld => ?_)
          clear hK K
          try simp only [List.getElem_toArray, List.getElem_cons_zero, List.getElem_cons_succ, Act.put, List.setIfInBounds_toArray, List.set_cons_zero, List.set_cons_succ]
          refine' wpAnyH_take (i := 6) (v := _) rfl (by kernel_rfl) (by kernel_rfl) (by kernel_rfl) (fun _ _ _ h => h) (Or.inl ⟨by rfl, ?hy55⟩) hHeld ?rest55
          case hy55 => (intro w' hS; obtain ⟨s1, s2, s3⟩ := hS; (try simp only [List.getElem_toArray, List.getElem_cons_zero, List.getElem_cons_succ]); go_simp; try with_reducible rfl)
          try simp only [List.getElem_toArray, List.getElem_cons_zero, List.getElem_cons_succ, Act.put, List.setIfInBounds_toArray, List.set_cons_zero, List.set_cons_succ]
          refine' wpAnyH_take (i := 7) (v := _) rfl (by kernel_rfl) (by kernel_rfl) (by kernel_rfl) (fun _ _ _ h => h) (Or.inl ⟨by rfl, ?hy56⟩) hHeld ?rest56
          case hy56 => (intro w' hS; obtain ⟨s1, s2, s3⟩ := hS; (try simp only [List.getElem_toArray, List.getElem_cons_zero, List.getElem_cons_succ]); go_simp; try with_reducible rfl)
          try simp only [List.getElem_toArray, List.getElem_cons_zero, List.getElem_cons_succ, Act.put, List.setIfInBounds_toArray, List.set_cons_zero, List.set_cons_succ]
          refine' wpAnyH_take (i := 8) (v := _) rfl (by kernel_rfl) (by kernel_rfl) (by kernel_rfl) (fun _ _ _ h => h) (Or.inl ⟨by rfl, ?hy57⟩) hHeld ?rest57
          case hy57 => (intro w' hS; obtain ⟨s1, s2, s3⟩ := hS; (try simp only [List.getElem_toArray, List.getElem_cons_zero, List.getElem_cons_succ]); go_simp; try with_reducible rfl)
          try simp only [List.getElem_toArray, List.getElem_cons_zero, List.getElem_cons_succ, Act.put, List.setIfInBounds_toArray, List.set_cons_zero, List.set_cons_succ]
          refine' wpAnyH_take (i := 9) (v := _) rfl (by kernel_rfl) (by kernel_rfl) (by kernel_rfl) (fun _ _ _ h => h) (Or.inl ⟨by rfl, ?hy58⟩) hHeld ?rest58
          case hy58 => (intro w' hS; obtain ⟨s1, s2, s3⟩ := hS; (try simp only [List.getElem_toArray, List.getElem_cons_zero, List.getElem_cons_succ]); go_simp; try with_reducible rfl)
          try simp only [List.getElem_toArray, List.getElem_cons_zero, List.getElem_cons_succ, Act.put, List.setIfInBounds_toArray, List.set_cons_zero, List.set_cons_succ]
          refine' wpAnyH_take (i := 10) (v := _) rfl (by kernel_rfl) (by kernel_rfl) (by kernel_rfl) (fun _ _ _ h => h) (Or.inl ⟨by rfl, ?hy59⟩) hHeld ?rest59
          case hy59 => (intro w' hS; obtain ⟨s1, s2, s3⟩ := hS; (try simp only [List.getElem_toArray, List.getElem_cons_zero, List.getElem_cons_succ]); go_simp; try with_reducible rfl)
          try simp only [List.getElem_toArray, List.getElem_cons_zero, List.getElem_cons_succ, Act.put, List.setIfInBounds_toArray, List.set_cons_zero, List.set_cons_succ]
          refine wpAnyH_done (by kernel_rfl) ?_ _
          go_upto_region 19 with fail
          have HJ11 := Lib.hid (HJ10.out.below HB11.out)
          have HO11 : Hid (Own w11 0 (.slice a2 p.bs.length c2) p.bs ∧ ∀ k, (Value.slice a2 p.bs.length c2).ownBlock = some k → Mx M ga w11 k) := Lib.hid ⟨Own.below (ownsRow_base HO10.out.1 (fun k _ => Nat.zero_le k)) HB11.out, fun k hk => (HO10.out.2 k hk).imp id (fun h => ⟨h.1, Nat.lt_of_lt_of_le h.2 HB11.out.size⟩)⟩
          have HCX11 := Lib.hid (below_cells HB11.out _ _ HCX.out)
          clear HJ10 HO10 HCX HB11 HBS HJ8 HB8 G18
          have hins := ins_call HJ11.out HP.out.1 rfl HXS.out bi (by rw [HBI.out]; exact List.findIdx_le_length)
          rw [HXV.out] at hins
          have HINS := Lib.hid hins
          have hok := HP.out.1
          clear hins
          go_cut [] (fun wx => Hid (J3e w M F many most (L.map PkM.T) p gf ga gl L'.length cl i wx))
          case first =>
            refine wp_region_held_drew (S := fun w' => S19 gp p (.slice a2 p.bs.length c2) w') (by kernel_rfl) (s19_below HJ11.out HP.out.1 (drew_below w11)) (fun hHeld => ?_)
            refine' wpAnyH_take (i := 0) (v := _) rfl (by kernel_rfl) (by kernel_rfl) (by kernel_rfl) (fun _ _ _ h => h) (Or.inl ⟨by rfl, ?hy61⟩) hHeld ?rest61
            case hy61 => (intro w' hS; obtain ⟨s1, s2⟩ := hS; (try simp only [List.getElem_toArray, List.getElem_cons_zero, List.getElem_cons_succ]); go_simp; try with_reducible rfl)
            try simp only [List.getElem_toArray, List.getElem_cons_zero, List.getElem_cons_succ, Act.put, List.setIfInBounds_toArray, List.set_cons_zero, List.set_cons_succ]
            refine' wpAnyH_take (i := 1) (v := _) rfl (by kernel_rfl) (by kernel_rfl) (by kernel_rfl) (fun _ _ _ h => h) (Or.inl ⟨by rfl, ?hy62⟩) hHeld ?rest62
            case hy62 => (intro w' hS; obtain ⟨s1, s2⟩ := hS; (try simp only [List.getElem_toArray, List.getElem_cons_zero, List.getElem_cons_succ]); go_simp; try with_reducible rfl)
            try simp only [List.getElem_toArray, List.getElem_cons_zero, List.getElem_cons_succ, Act.put, List.setIfInBounds_toArray, List.set_cons_zero, List.set_cons_succ]
            refine' wpAnyH_take (i := 2) (v := _) rfl (by kernel_rfl) (by kernel_rfl) (by kernel_rfl) (fun _ _ _ h => h) (Or.inl ⟨by rfl, ?hy63⟩) hHeld ?rest63
            case hy63 => (intro w' hS; obtain ⟨s1, s2⟩ := hS; (try simp only [List.getElem_toArray, List.getElem_cons_zero, List.getElem_cons_succ]); go_simp; try with_reducible rfl)
            try simp only [List.getElem_toArray, List.getElem_cons_zero, List.getElem_cons_succ, Act.put, List.setIfInBounds_toArray, List.set_cons_zero, List.set_cons_succ]
            refine' wpAnyH_take (i := 3) (v := _) rfl (by kernel_rfl) (by kernel_rfl) (by kernel_rfl) (fun _ _ _ h => h) (Or.inl ⟨by rfl, ?hy64⟩) hHeld ?rest64
            case hy64 => (intro w' hS; obtain ⟨s1, s2⟩ := hS; (try simp only [List.getElem_toArray, List.getElem_cons_zero, List.getElem_cons_succ]); go_simp; try with_reducible rfl)
            try simp only [List.getElem_toArray, List.getElem_cons_zero, List.getElem_cons_succ, Act.put, List.setIfInBounds_toArray, List.set_cons_zero, List.set_cons_succ]
            refine' wpAnyH_take (i := 5) (v := _) rfl (by kernel_rfl) (by kernel_rfl) (by kernel_rfl) (fun _ _ _ h => h) (Or.inl ⟨by rfl, ?hy65⟩) hHeld ?rest65
            case hy65 => (intro w' hS; obtain ⟨s1, s2⟩ := hS; (try simp only [List.getElem_toArray, List.getElem_cons_zero, List.getElem_cons_succ]); go_simp; try with_reducible rfl)
            try simp only [List.getElem_toArray, List.getElem_cons_zero, List.getElem_cons_succ, Act.put, List.setIfInBounds_toArray, List.set_cons_zero, List.set_cons_succ]
            refine' wpAnyH_take (i := 6) (v := _) rfl (by kernel_rfl) (by kernel_rfl) (by kernel_rfl) (fun _ _ _ h => h) (Or.inl ⟨by rfl, ?hy66⟩) hHeld ?rest66
            case hy66 => (intro w' hS; obtain ⟨s1, s2⟩ := hS; (try simp only [List.getElem_toArray, List.getElem_cons_zero, List.getElem_cons_succ]); go_simp; try with_reducible rfl)
            try simp only [List.getElem_toArray, List.getElem_cons_zero, List.getElem_cons_succ, Act.put, List.setIfInBounds_toArray, List.set_cons_zero, List.set_cons_succ]
            refine wpAnyH_ready (rs := [4, 7]) (by kernel_rfl) (by simp) ?_
            refine (AllReadyH.cons rfl (fun K hK => ?_) (AllReadyH.cons rfl (fun K hK => ?_) AllReadyH.nil))
            · obtain ⟨s1, s2⟩ := hHeld
              have hF := HCX11.out
              go_simp
              clear hF s1 s2
              go_wp2_with fail
              refine hK.out _ _ (s19_below HJ11.out HP.out.1 (drew_below w11)) (fun hHeld => ?_)
              clear hK K
              try simp only [List.getElem_toArray, List.getElem_cons_zero, List.getElem_cons_succ, Act.put, List.setIfInBounds_toArray, List.set_cons_zero, List.set_cons_succ]
              refine wpAnyH_ready (rs := [7]) (by kernel_rfl) (by simp) ?_
              refine (AllReadyH.cons rfl (fun K hK => ?_) AllReadyH.nil)
              obtain ⟨s1, s2⟩ := hHeld
              go_simp
              clear s1 s2
              go_wp2_with fail
              refine hK.out _ _ (s19_below HJ11.out HP.out.1 (alloc_drew w11 _)) (fun hHeld => ?_)
              clear hK K
              try simp only [List.getElem_toArray, List.getElem_cons_zero, List.getElem_cons_succ, Act.put, List.setIfInBounds_toArray, List.set_cons_zero, List.set_cons_succ]
              refine wpAnyH_ready (rs := [8]) (by kernel_rfl) (by simp) ?_
              refine (AllReadyH.cons rfl (fun K hK => ?_) AllReadyH.nil)
              obtain ⟨s1, s2⟩ := hHeld
              go_simp
              refine HINS.out.mono ?_
              rintro e w12 ⟨v', rfl, hown', hgr, hob⟩
              obtain ⟨av, cv, rfl, _, _⟩ := ownsRow_shape hown'
              have HGR := Lib.hid hgr
              have HIR := Lib.hid (show InsRet _ 0 _ (x.ps.length + 1) _ (.returned (.slice av (x.ps.length + 1) cv)) w12 from ⟨_, rfl, hown', hgr, hob⟩)
              have G19 := Lib.hid (ins_grown (u := .slice av (x.ps.length + 1) cv) HJ11.out HP.out.1 (by rw [HXV.out]; exact HGR.out) rfl)
              clear hown' hgr hob HGR s1 s2
              go_wp2_with fail
              refine hK.out _ _ (G19.out.1) (fun hHeld => ?_)
              clear hK K
              try simp only [List.getElem_toArray, List.getElem_cons_zero, List.getElem_cons_succ, Act.put, List.setIfInBounds_toArray, List.set_cons_zero, List.set_cons_succ]
              refine' wpAnyH_take (i := 9) (v := _) rfl (by kernel_rfl) (by kernel_rfl) (by kernel_rfl) (fun _ _ _ h => h) (Or.inl ⟨by rfl, ?hy70⟩) hHeld ?rest70
              case hy70 => (intro w' hS; obtain ⟨s1, s2⟩ := hS; (try simp only [List.getElem_toArray, List.getElem_cons_zero, List.getElem_cons_succ]); go_simp; try with_reducible rfl)
              try simp only [List.getElem_toArray, List.getElem_cons_zero, List.getElem_cons_succ, Act.put, List.setIfInBounds_toArray, List.set_cons_zero, List.set_cons_succ]
              refine' wpAnyH_take (i := 10) (v := _) rfl (by kernel_rfl) (by kernel_rfl) (by kernel_rfl) (fun _ _ _ h => h) (Or.inl ⟨by rfl, ?hy71⟩) hHeld ?rest71
              case hy71 => (intro w' hS; obtain ⟨s1, s2⟩ := hS; (try simp only [List.getElem_toArray, List.getElem_cons_zero, List.getElem_cons_succ]); go_simp; try with_reducible rfl)
              try simp only [List.getElem_toArray, List.getElem_cons_zero, List.getElem_cons_succ, Act.put, List.setIfInBounds_toArray, List.set_cons_zero, List.set_cons_succ]
              refine wpAnyH_ready (rs := [11]) (by kernel_rfl) (by simp) ?_
              refine (AllReadyH.cons rfl (fun K hK => ?_) AllReadyH.nil)
              obtain ⟨s1, s2⟩ := hHeld
              have hc2 := G19.out.2.2.1
              rw [HXV.out] at hc2
              have hz2 := G19.out.2.2.2
              go_simp
              clear hc2 hz2 s1 s2
              go_wp2_with fail
              refine hK.out _ _ (G19.out.2.1) (fun hHeld => ?_)
              clear hK K
              try simp only [List.getElem_toArray, List.getElem_cons_zero, List.getElem_cons_succ, Act.put, List.setIfInBounds_toArray, List.set_cons_zero, List.set_cons_succ]
              refine wpAnyH_done (by kernel_rfl) ?_ _
              go_wp2_with fail
              go_meet
              case rel => exact Lib.hid ⟨_, _, _, (List.length_set).symm, j3_new HJ11.out HSB.out HCB.out HP.out.1 HMY.out HO11.out.1 HO11.out.2 HSMT.out HPL.out rfl (by rw [← HBI.out, HXV.out]; exact HIR.out)⟩
            · obtain ⟨s1, s2⟩ := hHeld
              go_simp
              clear s1 s2
              go_wp2_with fail
              refine hK.out _ _ (s19_below HJ11.out HP.out.1 (alloc_drew w11 _)) (fun hHeld => ?_)
              clear hK K
              try simp only [List.getElem_toArray, List.getElem_cons_zero, List.getElem_cons_succ, Act.put, List.setIfInBounds_toArray, List.set_cons_zero, List.set_cons_succ]
              refine wpAnyH_ready (rs := [4]) (by kernel_rfl) (by simp) ?_
              refine (AllReadyH.cons rfl (fun K hK => ?_) AllReadyH.nil)
              obtain ⟨s1, s2⟩ := hHeld
              have hF := below_cells (below_alloc w11 (.cells (partA p (.slice a2 p.bs.length c2)) 90)) _ _ HCX11.out
              go_simp
              clear hF s1 s2
              go_wp2_with fail
              refine hK.out _ _ (s19_below HJ11.out HP.out.1 (alloc_drew w11 _)) (fun hHeld => ?_)
              clear hK K
              try simp only [List.getElem_toArray, List.getElem_cons_zero, List.getElem_cons_succ, Act.put, List.setIfInBounds_toArray, List.set_cons_zero, List.set_cons_succ]
              refine wpAnyH_ready (rs := [8]) (by kernel_rfl) (by simp) ?_
              refine (AllReadyH.cons rfl (fun K hK => ?_) AllReadyH.nil)
              obtain ⟨s1, s2⟩ := hHeld
              go_simp
              refine HINS.out.mono ?_
              rintro e w12 ⟨v', rfl, hown', hgr, hob⟩
              obtain ⟨av, cv, rfl, _, _⟩ := ownsRow_shape hown'
              have HGR := Lib.hid hgr
              have HIR := Lib.hid (show InsRet _ 0 _ (x.ps.length + 1) _ (.returned (.slice av (x.ps.length + 1) cv)) w12 from ⟨_, rfl, hown', hgr, hob⟩)
              have G19 := Lib.hid (ins_grown (u := .slice av (x.ps.length + 1) cv) HJ11.out HP.out.1 (by rw [HXV.out]; exact HGR.out) rfl)
              clear hown' hgr hob HGR s1 s2
              go_wp2_with fail
              refine hK.out _ _ (G19.out.1) (fun hHeld => ?_)
              clear hK K
              try simp only [List.getElem_toArray, List.getElem_cons_zero, List.getElem_cons_succ, Act.put, List.setIfInBounds_toArray, List.set_cons_zero, List.set_cons_succ]
              refine' wpAnyH_take (i := 9) (v := _) rfl (by kernel_rfl) (by kernel_rfl) (by kernel_rfl) (fun _ _ _ h => h) (Or.inl ⟨by rfl, ?hy76⟩) hHeld ?rest76
              case hy76 => (intro w' hS; obtain ⟨s1, s2⟩ := hS; (try simp only [List.getElem_toArray, List.getElem_cons_zero, List.getElem_cons_succ]); go_simp; try with_reducible rfl)
              try simp only [List.getElem_toArray, List.getElem_cons_zero, List.getElem_cons_succ, Act.put, List.setIfInBounds_toArray, List.set_cons_zero, List.set_cons_succ]
              refine' wpAnyH_take (i := 10) (v := _) rfl (by kernel_rfl) (by kernel_rfl) (by kernel_rfl) (fun _ _ _ h => h) (Or.inl ⟨by rfl, ?hy77⟩) hHeld ?rest77
              case hy77 => (intro w' hS; obtain ⟨s1, s2⟩ := hS; (try simp only [List.getElem_toArray, List.getElem_cons_zero, List.getElem_cons_succ]); go_simp; try with_reducible rfl)
              try simp only [List.getElem_toArray, List.getElem_cons_zero, List.getElem_cons_succ, Act.put, List.setIfInBounds_toArray, List.set_cons_zero, List.set_cons_succ]
              refine wpAnyH_ready (rs := [11]) (by kernel_rfl) (by simp) ?_
              refine (AllReadyH.cons rfl (fun K hK => ?_) AllReadyH.nil)
              obtain ⟨s1, s2⟩ := hHeld
              have hc2 := G19.out.2.2.1
              rw [HXV.out] at hc2
              have hz2 := G19.out.2.2.2
              go_simp
              clear hc2 hz2 s1 s2
              go_wp2_with fail
              refine hK.out _ _ (G19.out.2.1) (fun hHeld => ?_)
              clear hK K
              try simp only [List.getElem_toArray, List.getElem_cons_zero, List.getElem_cons_succ, Act.put, List.setIfInBounds_toArray, List.set_cons_zero, List.set_cons_succ]
              refine wpAnyH_done (by kernel_rfl) ?_ _
              go_wp2_with fail
              go_meet
              case rel => exact Lib.hid ⟨_, _, _, (List.length_set).symm, j3_new HJ11.out HSB.out HCB.out HP.out.1 HMY.out HO11.out.1 HO11.out.2 HSMT.out HPL.out rfl (by rw [← HBI.out, HXV.out]; exact HIR.out)⟩
          case rest =>
            obtain ⟨L3, v3, qs, hcl3, J⟩ := hcut.out
            have HL3 := Lib.hid hcl3
            have HJ3 := Lib.hid J
            clear hcl3 J
            clear HJ11 HO11 HCX11 HINS HSB HCB HBI hok
            obtain ⟨gq, cq, rfl, hq1, hq2, hpt⟩ := HJ3.out.row
            have HPT := Lib.hid hpt
            have HBY := Lib.hid HJ3.out.bytes
            have HOQ := Lib.hid HJ3.out.oks
            have HQL := Lib.hid HJ3.out.qlen
            have q1 := (tab_cell HJ3.out.tab rfl (fun y hy => (HJ3.out.ok y hy).1) HJ3.out.at_).1
            obtain ⟨m, hm0⟩ : ∃ m, m = qs.length := ⟨_, rfl⟩
            rw [← hm0] at hq1 q1 HJ3
            have HMM := Lib.hid hm0
            have hmpos : 0 < m := by
              rw [hm0]
              exact List.length_pos_iff.2 HJ3.out.ne
            have HTOP := Lib.hid q1
            clear hpt hm0
            go_wp2_with fail
            go_loopw [4, 13, 134] (fun v4 nx ix wr => ∃ (k : Nat) (n : Int), v4 = .slice none 0 0 ∧ ix = .int .i64 k ∧ nx = .int .i64 n ∧ k ≤ m ∧ Hid (noGap 0 (qs.map (·.1)) = noGap n ((qs.map (·.1)).drop k) ∧ Below wc.heap.size wc wr)) (fun _ _ ix _ => m - (intOf ix).toNat)
            case atStart => exact ⟨0, 0, rfl, rfl, rfl, Nat.zero_le _, by simp, Below.refl _ _⟩
            case round =>
              obtain ⟨k, n, rfl, rfl, rfl, hk, HX⟩ := hrel
              by_cases hlt : k < m
              · obtain ⟨q, hq⟩ : ∃ q, qs[k]? = some q := ⟨qs[k]'(by rw [← HMM.out]; exact hlt), by rw [List.getElem?_eq_getElem]⟩
                have hqm := List.mem_of_getElem? hq
                have hok := (HOQ.out q hqm).1
                have hp1 := (HPT.out k q hq).below HX.out.2
                have g1 := hp1.has hok
                have g2 := hp1.rd hok
                have HST := Lib.hid (noGap_step (n := n) hq)
                have HBQ := Lib.hid (fun Z => ((HBY.out q hqm).bs.below HX.out.2).below (bx_below (Z := Z) (p := q.1) (v := q.2)))
                have hone : q.2.oneCell' = true := own_one (HBY.out q hqm)
                have HFI := Lib.hid (may_fits (HOQ.out q hqm).2 hmost).1
                clear hp1 hq hqm
                by_cases hpos : q.1.pos = n
                · have hb1 : (q.1.pos != n) = false := by simp [hpos]
                  have HPOS := Lib.hid hpos
                  clear hpos
                  go_wp2_with fail
                  refine (end_any _ q.1 q.2 hok (HBQ.out _) HFI.out.1 HFI.out.2).mono ?_
                  rintro e w14 ⟨rfl, hb14⟩
                  have HB14 : Hid (Below wc.heap.size wc w14) := Lib.hid (HX.out.2.then (bx_below.then hb14))
                  clear hb14
                  go_wp2_with fail
                  go_roundw
                  case rel => exact ⟨k + 1, q.1.fin, rfl, by go_num, rfl, by omega, by rw [HX.out.1, HST.out, HPOS.out]; simp, HB14.out⟩
                  case measure => simp [intOf]; omega
                · have hb1 : (q.1.pos != n) = true := by simp [hpos]
                  have hno : wholeB (qs.map (·.1)) = false := by
                    unfold wholeB
                    rw [HX.out.1, HST.out]
                    simp [hpos]
                  have HNO := Lib.hid hno
                  clear hpos hno
                  go_wp2_with fail
                  go_ret3
                  rw [HQ.out]
                  exact j3_part HJ3.out HNO.out rfl (HX.out.2.then bx_below)
              · obtain rfl : k = m := by omega
                have HGAP : Hid (noGap 0 (qs.map (·.1)) = true) := Lib.hid (by
                  rw [HX.out.1, List.drop_eq_nil_of_le (by rw [List.length_map, HMM.out]; exact Nat.le_refl _)]; rfl)
                obtain ⟨m1, hm1⟩ : ∃ m1, k = m1 + 1 := ⟨k - 1, by omega⟩
                have hwn : IntKind.i64.wrap ((k : Int) - 1) = (m1 : Int) := by rw [IntKind.wrap_i64]; omega
                have e1 : (0 : Int) ≤ (m1 : Int) := by omega
                have e2 : (m1 : Int) < (k : Int) := by omega
                obtain ⟨q, hq⟩ : ∃ q, qs[m1]? = some q := ⟨qs[m1]'(by rw [← HMM.out]; omega), by rw [List.getElem?_eq_getElem]⟩
                have hqm := List.mem_of_getElem? hq
                have HLM : Hid (lastMore (qs.map (·.1)) = q.1.more) := Lib.hid (lastMore_at (by rw [← HMM.out, hm1]) hq)
                have HC := Lib.hid ((HPT.out m1 q hq).cells (HOQ.out q hqm).1).2.1
                obtain ⟨mo, hmo⟩ : ∃ b, b = q.1.more := ⟨_, rfl⟩
                rw [← hmo] at HC HLM
                clear hq hqm hm1 hmo hlt
                go_upto_region 28 with fail
                refine wp_region_held_drew (S := fun w' => S28 gl i gq (m1 * 39 + 37) (.slice (some ⟨gq, 0, none⟩) k cq) mo w') (by kernel_rfl) (⟨below_cells (HX.out.2.then (drew_below _)) _ _ HTOP.out, below_cells (HX.out.2.then (drew_below _)) _ _ HC.out⟩) (fun hHeld => ?_)
                refine' wpAnyH_take (i := 0) (v := _) rfl (by kernel_rfl) (by kernel_rfl) (by kernel_rfl) (fun _ _ _ h => h) (Or.inl ⟨by rfl, ?hy80⟩) hHeld ?rest80
                case hy80 => (intro w' hS; obtain ⟨s1, s2⟩ := hS; (try simp only [List.getElem_toArray, List.getElem_cons_zero, List.getElem_cons_succ]); go_simp; try with_reducible rfl)
                try simp only [List.getElem_toArray, List.getElem_cons_zero, List.getElem_cons_succ, Act.put, List.setIfInBounds_toArray, List.set_cons_zero, List.set_cons_succ]
                refine' wpAnyH_take (i := 1) (v := _) rfl (by kernel_rfl) (by kernel_rfl) (by kernel_rfl) (fun _ _ _ h => h) (Or.inl ⟨by rfl, ?hy81⟩) hHeld ?rest81
                case hy81 => (intro w' hS; obtain ⟨s1, s2⟩ := hS; (try simp only [List.getElem_toArray, List.getElem_cons_zero, List.getElem_cons_succ]); go_simp; try with_reducible rfl)
                try simp only [List.getElem_toArray, List.getElem_cons_zero, List.getElem_cons_succ, Act.put, List.setIfInBounds_toArray, List.set_cons_zero, List.set_cons_succ]
                refine' wpAnyH_take (i := 2) (v := _) rfl (by kernel_rfl) (by kernel_rfl) (by kernel_rfl) (fun _ _ _ h => h) (Or.inl ⟨by rfl, ?hy82⟩) hHeld ?rest82
                case hy82 => (intro w' hS; obtain ⟨s1, s2⟩ := hS; (try simp only [List.getElem_toArray, List.getElem_cons_zero, List.getElem_cons_succ]); go_simp; try with_reducible rfl)
                try simp only [List.getElem_toArray, List.getElem_cons_zero, List.getElem_cons_succ, Act.put, List.setIfInBounds_toArray, List.set_cons_zero, List.set_cons_succ]
                refine' wpAnyH_take (i := 3) (v := _) rfl (by kernel_rfl) (by kernel_rfl) (by kernel_rfl) (fun _ _ _ h => h) (Or.inl ⟨by rfl, ?hy83⟩) hHeld ?rest83
                case hy83 => (intro w' hS; obtain ⟨s1, s2⟩ := hS; (try simp only [List.getElem_toArray, List.getElem_cons_zero, List.getElem_cons_succ]); go_simp; try with_reducible rfl)
                try simp only [List.getElem_toArray, List.getElem_cons_zero, List.getElem_cons_succ, Act.put, List.setIfInBounds_toArray, List.set_cons_zero, List.set_cons_succ]
                refine' wpAnyH_take (i := 4) (v := _) rfl (by kernel_rfl) (by kernel_rfl) (by kernel_rfl) (fun _ _ _ h => h) (Or.inl ⟨by rfl, ?hy84⟩) hHeld ?rest84
                case hy84 => (intro w' hS; obtain ⟨s1, s2⟩ := hS; (try simp only [List.getElem_toArray, List.getElem_cons_zero, List.getElem_cons_succ]); go_simp; try with_reducible rfl)
                try simp only [List.getElem_toArray, List.getElem_cons_zero, List.getElem_cons_succ, Act.put, List.setIfInBounds_toArray, List.set_cons_zero, List.set_cons_succ]
                refine' wpAnyH_take (i := 5) (v := _) rfl (by kernel_rfl) (by kernel_rfl) (by kernel_rfl) (fun _ _ _ h => h) (Or.inl ⟨by rfl, ?hy85⟩) hHeld ?rest85
                case hy85 => (intro w' hS; obtain ⟨s1, s2⟩ := hS; (try simp only [List.getElem_toArray, List.getElem_cons_zero, List.getElem_cons_succ]); go_simp; try with_reducible rfl)
                try simp only [List.getElem_toArray, List.getElem_cons_zero, List.getElem_cons_succ, Act.put, List.setIfInBounds_toArray, List.set_cons_zero, List.set_cons_succ]
                refine' wpAnyH_take (i := 6) (v := _) rfl (by kernel_rfl) (by kernel_rfl) (by kernel_rfl) (fun _ _ _ h => h) (Or.inl ⟨by rfl, ?hy86⟩) hHeld ?rest86
                case hy86 => (intro w' hS; obtain ⟨s1, s2⟩ := hS; (try simp only [List.getElem_toArray, List.getElem_cons_zero, List.getElem_cons_succ]); go_simp; try with_reducible rfl)
                try simp only [List.getElem_toArray, List.getElem_cons_zero, List.getElem_cons_succ, Act.put, List.setIfInBounds_toArray, List.set_cons_zero, List.set_cons_succ]
                refine' wpAnyH_take (i := 7) (v := _) rfl (by kernel_rfl) (by kernel_rfl) (by kernel_rfl) (fun _ _ _ h => h) (Or.inl ⟨by rfl, ?hy87⟩) hHeld ?rest87
                case hy87 => (intro w' hS; obtain ⟨s1, s2⟩ := hS; (try simp only [List.getElem_toArray, List.getElem_cons_zero, List.getElem_cons_succ]); go_simp; try with_reducible rfl)
                try simp only [List.getElem_toArray, List.getElem_cons_zero, List.getElem_cons_succ, Act.put, List.setIfInBounds_toArray, List.set_cons_zero, List.set_cons_succ]
                refine' wpAnyH_take (i := 8) (v := _) rfl (by kernel_rfl) (by kernel_rfl) (by kernel_rfl) (fun _ _ _ h => h) (Or.inl ⟨by rfl, ?hy88⟩) hHeld ?rest88
                case hy88 => (intro w' hS; obtain ⟨s1, s2⟩ := hS; (try simp only [List.getElem_toArray, List.getElem_cons_zero, List.getElem_cons_succ]); go_simp; try with_reducible rfl)
                try simp only [List.getElem_toArray, List.getElem_cons_zero, List.getElem_cons_succ, Act.put, List.setIfInBounds_toArray, List.set_cons_zero, List.set_cons_succ]
                refine' wpAnyH_take (i := 9) (v := _) rfl (by kernel_rfl) (by kernel_rfl) (by kernel_rfl) (fun _ _ _ h => h) (Or.inl ⟨by rfl, ?hy89⟩) hHeld ?rest89
                case hy89 => (intro w' hS; obtain ⟨s1, s2⟩ := hS; (try simp only [List.getElem_toArray, List.getElem_cons_zero, List.getElem_cons_succ]); go_simp; try with_reducible rfl)
                try simp only [List.getElem_toArray, List.getElem_cons_zero, List.getElem_cons_succ, Act.put, List.setIfInBounds_toArray, List.set_cons_zero, List.set_cons_succ]
                refine' wpAnyH_take (i := 10) (v := _) rfl (by kernel_rfl) (by kernel_rfl) (by kernel_rfl) (fun _ _ _ h => h) (Or.inl ⟨by rfl, ?hy90⟩) hHeld ?rest90
                case hy90 => (intro w' hS; obtain ⟨s1, s2⟩ := hS; (try simp only [List.getElem_toArray, List.getElem_cons_zero, List.getElem_cons_succ]); go_simp; try with_reducible rfl)
                try simp only [List.getElem_toArray, List.getElem_cons_zero, List.getElem_cons_succ, Act.put, List.setIfInBounds_toArray, List.set_cons_zero, List.set_cons_succ]
                refine' wpAnyH_take (i := 11) (v := _) rfl (by kernel_rfl) (by kernel_rfl) (by kernel_rfl) (fun _ _ _ h => h) (Or.inl ⟨by rfl, ?hy91⟩) hHeld ?rest91
                case hy91 => (intro w' hS; obtain ⟨s1, s2⟩ := hS; (try simp only [List.getElem_toArray, List.getElem_cons_zero, List.getElem_cons_succ]); go_simp; try with_reducible rfl)
                try simp only [List.getElem_toArray, List.getElem_cons_zero, List.getElem_cons_succ, Act.put, List.setIfInBounds_toArray, List.set_cons_zero, List.set_cons_succ]
                refine' wpAnyH_take (i := 12) (v := _) rfl (by kernel_rfl) (by kernel_rfl) (by kernel_rfl) (fun _ _ _ h => h) (Or.inl ⟨by rfl, ?hy92⟩) hHeld ?rest92
                case hy92 => (intro w' hS; obtain ⟨s1, s2⟩ := hS; (try simp only [List.getElem_toArray, List.getElem_cons_zero, List.getElem_cons_succ]); go_simp; try with_reducible rfl)
                try simp only [List.getElem_toArray, List.getElem_cons_zero, List.getElem_cons_succ, Act.put, List.setIfInBounds_toArray, List.set_cons_zero, List.set_cons_succ]
                refine wpAnyH_done (by kernel_rfl) ?_ _
                rcases mo with _ | _
                · have HWH : Hid (wholeB (qs.map (·.1)) = true) := Lib.hid (by unfold wholeB; rw [HGAP.out, HLM.out]; rfl)
                  have HB16 := Lib.hid (HX.out.2.then (drew_below _))
                  have q6 := below_cells HB16.out _ _ HTOP.out
                  have HJZ := Lib.hid (Nat.zero_le 0)
                  clear hHeld
                  go_wp2_with fail
                  go_loopw [4, 163] (fun vw ix wz => ∃ (j : Nat) (ya : Option Addr) (yc : Nat) (Y : List UInt8), ix = .int .i64 j ∧ vw = .slice ya Y.length yc ∧ j ≤ k ∧ Hid (Y = joinB ((qs.map (·.1)).take j) ∧ Own wz wc.heap.size (.slice ya Y.length yc) Y ∧ Below wc.heap.size wc wz)) (fun _ ix _ => k - (intOf ix).toNat)
                  case atStart => exact ⟨0, none, 0, [], rfl, rfl, Nat.zero_le _, by simp [joinB], own_nil _ _, HB16.out⟩
                  case round =>
                    obtain ⟨j, ya, yc, Y, rfl, rfl, hj, HY⟩ := hrel
                    by_cases hlt : j < k
                    · obtain ⟨q, hq⟩ : ∃ q, qs[j]? = some q := ⟨qs[j]'(by rw [← HMM.out]; exact hlt), by rw [List.getElem?_eq_getElem]⟩
                      have hqm := List.mem_of_getElem? hq
                      have hok := (HOQ.out q hqm).1
                      have hp1 := (HPT.out j q hq).below HY.out.2.2
                      have g1 := hp1.has hok
                      have g2 := hp1.rd hok
                      have HST := Lib.hid (joinB_step hq)
                      have HBQ := Lib.hid (fun Z => ((HBY.out q hqm).bs.below HY.out.2.2).below (bx_below (Z := Z) (p := q.1) (v := q.2)))
                      have HOW := Lib.hid (fun Z => Own.below HY.out.2.1 (bx_below (Z := Z) (p := q.1) (v := q.2)))
                      have HBZ := Lib.hid (fun Z => HY.out.2.2.then (bx_below (Z := Z) (p := q.1) (v := q.2)))
                      have hone : q.2.oneCell' = true := own_one (HBY.out q hqm)
                      have HLE : Hid (Y.length + q.1.bs.length ≤ 70368744177664) := Lib.hid (by
                        have h1 := joinB_len (k := j) HQL.out.2
                        have h2 := HQL.out.1
                        have h3 := HQL.out.2 q hqm
                        rw [← HY.out.1] at h1; omega)
                      clear hp1 hq hqm
                      go_wp2_with (at_builtin; refine wpList_app' rfl _ _ rfl wc.heap.size _ Y rfl (HOW.out _) _ q.1.bs rfl (HBQ.out _) HLE.out (HBZ.out _).size ?_; intro Y2 a2 c2 w8 E2 O2 L2 N2 hc2)
                      go_roundw
                      case rel => exact ⟨j + 1, a2, c2, Y2, by go_num, rfl, by omega, by rw [E2.out, HST.out, HY.out.1], O2.out, (HBZ.out _).trans L2.out⟩
                      case measure => simp [intOf]; omega
                    · obtain rfl : j = k := by omega
                      have HYW : Hid (Y = joinB (qs.map (·.1))) := Lib.hid (by
                        rw [HY.out.1, List.take_of_length_le (by rw [List.length_map, HMM.out]; exact Nat.le_refl _)])
                      have HJL := Lib.hid (HJ3.out.below HY.out.2.2)
                      obtain ⟨n1, n2⟩ := HJL.out.noM _
                      have HG := Lib.hid (goes_call HJL.out.tab HJL.out.cf HJL.out.ca n1 n2 (by have := (List.getElem?_eq_some_iff.1 HJL.out.at_).1; exact this) (by have h1 := HJL.out.len; rw [List.length_map] at h1; have := HSM.out; omega))
                      clear n1 n2
                      go_wp2_with fail
                      refine HG.out.mono ?_
                      rintro e w20 ⟨rfl, hg⟩
                      have HG20 := Lib.hid hg
                      clear hg HG
                      go_wp2_with fail
                      go_ret3
                      rw [HQ.out]
                      exact j3_whole HJ3.out HWH.out HY.out.2.2 (by rw [← HYW.out]; exact HY.out.2.1) HG20.out rfl
                · have hno : wholeB (qs.map (·.1)) = false := by
                    unfold wholeB
                    rw [HLM.out]; simp
                  have HNO := Lib.hid hno
                  clear hno
                  go_wp2_with fail
                  go_ret3
                  rw [HQ.out]
                  exact j3_part HJ3.out HNO.out rfl (HX.out.2.then (drew_below _))
        · have HCB := Lib.hid HR2.out.symm
          clear HR2
          obtain ⟨m1, m2, m3⟩ := HJ8.out.noM w8
          have HG := Lib.hid (goes_call HJ8.out.tab HJ8.out.b1.cf HJ8.out.ca m1 m3 hil (by have := HJ8.out.len.1; rw [List.length_map] at this; have := HSM.out; omega))
          clear m1 m2 m3
          go_wp2_with fail
          refine HG.out.mono ?_
          rintro e w9 ⟨rfl, hg9⟩
          have HG9 := Lib.hid hg9
          clear hg9 HG
          go_wp2_with fail
          go_ret3
          rw [HQ.out]
          exact j2_clash HJ8.out HSB.out HCB.out HG9.out rfl
      · have HSB := Lib.hid HR1.out.symm
        clear HR1
        go_wp2_with fail
        go_ret3
        rw [HQ.out]
        exact j2_same HJ7.out HSB.out rfl
end Go.Proofs.Ytnckmaieghlpmaa
