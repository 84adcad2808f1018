/-
  The walk of the law FragOwn.
-/
import Derived.Test.YtnckmaieghlpmaaLawFown1
namespace Go.Proofs.Ytnckmaieghlpmaa
open Go.RowKit
set_option linter.unusedVariables false
set_option linter.unusedSimpArgs false
attribute [local go_sem ↓] fold_ld54 fold_st54 fold_ld90 fold_st90 fold_ld121 fold_st121 fold_ld124 fold_st124 Go.wp_at_zero Go.wp_at_succ
attribute [local go_sem] ld54_at st54_at ld90_at st90_pt ld121_at st121_nm ld124_at free_new1 bx36 bx37 bx38 bxhas bxrd

def SF (gq : Nat) (v : Value) (w' : World) : Prop := w'.cell? ⟨gq, 38, none⟩ = some v ∧ True
set_option maxRecDepth 100000 in
set_option maxHeartbeats 8000000 in
theorem law_fown (W : World) (many most : Int) (a : Option Addr) (c : Nat) (L : List (PartD × Value)) (hl : L.length ≤ c) (hc : c ≤ 9223372036854775807) (hL : PsAt W a L) (hok : PsArg W L) (hmost : most ≤ 9223372036854775807) :
    Calls Try.prog 18 #[.int .i64 many, .int .i64 most, .slice a L.length c] W fun e W' => e = .returned (.bool true) ∧ Below W.heap.size W W' := by
  have HL := Lib.hid hL
  have HK := Lib.hid hok
  have HGR := Lib.hid (fun w' (h : Below W.heap.size W w') => great_any w' a c L hl hc (HL.out.below h) (fun x hx => ⟨(HK.out x hx).1.1, (HK.out x hx).2.1.below h⟩))
  obtain ⟨n, hn⟩ : ∃ n, n = L.length := ⟨_, rfl⟩
  rw [← hn] at hl HGR ⊢
  have HN := Lib.hid hn
  clear hL hok hn
  go_enter Try.func18, Try.ntmps18
  go_wp2_with fail
  refine (known17 _).mono ?_
  rintro e w1 ⟨rfl, hb1⟩
  have HB1 := Lib.hid hb1
  clear hb1
  go_wp2_with fail
  refine (HGR.out w1 HB1.out).mono ?_
  rintro e w1' ⟨rfl, rfl⟩
  obtain ⟨g, hg⟩ : ∃ g, g = greatB L := ⟨_, rfl⟩
  rw [← hg]
  rcases g with _ | _
  · have HS := Lib.hid (greatB_no hg.symm)
    clear hg HGR
    go_wp2_with fail
    refine (new_any w1 many most).mono ?_
    rintro e w2 ⟨rfl, rfl⟩
    have K1 := Lib.hid (ks_new W w1 W.heap.size many most 0 HB1.out HB1.out.size)
    have K1' : Hid (Below W.heap.size W (w1.alloc (.cells #[.int .i64 many, .int .i64 most, .slice none 0 0] 115))) := Lib.hid K1.out.bel
    go_wp2_with fail
    refine (new_any _ many most).mono ?_
    rintro e w2 ⟨rfl, rfl⟩
    have K2 := Lib.hid (ks_new W (w1.alloc (.cells #[.int .i64 many, .int .i64 most, .slice none 0 0] 115)) W.heap.size many most 0 K1'.out K1.out.sz)
    have KP : Hid (Pair2 W w1.heap.size (w1.heap.size + 1) many most n (.int .i64 0) ((w1.alloc (.cells #[.int .i64 many, .int .i64 most, .slice none 0 0] 115)).alloc (.cells #[.int .i64 many, .int .i64 most, .slice none 0 0] 115))) := Lib.hid ⟨0, _, _, _, rfl, Nat.zero_le _, K1.out.alloc _, by have := K2.out; rw [size_alloc] at this; exact this, fun i h1 h2 => by
      have h1 : i = w1.heap.size := h1
      have h2 : i = w1.heap.size + 1 := h2
      omega⟩
    rw [size_alloc]
    generalize (w1.alloc (.cells #[.int .i64 many, .int .i64 most, .slice none 0 0] 115)).alloc (.cells #[.int .i64 many, .int .i64 most, .slice none 0 0] 115) = w2 at KP ⊢
    generalize w1.heap.size + 1 = F2 at KP ⊢
    generalize w1.heap.size = F1 at KP ⊢
    clear HB1 K1 K1' K2
    go_wp2_with fail
    go_loopw [32] (fun ix wr => Hid (Pair2 W F1 F2 many most n ix wr)) (fun ix _ => n - (intOf ix).toNat)
    case atStart => exact KP
    case round =>
      obtain ⟨k, M1, M2, T, rfl, hk, hK1, hK2, hdis⟩ := hrel.out
      have HK1 := Lib.hid hK1
      have HK2 := Lib.hid hK2
      have HD := Lib.hid hdis
      clear hK1 hK2 hdis
      by_cases hlt : k < n
      · obtain ⟨x, hx⟩ : ∃ x, L[k]? = some x := ⟨L[k]'(by rw [← HN.out]; exact hlt), by rw [List.getElem?_eq_getElem]⟩
        have hxm := List.mem_of_getElem? hx
        obtain ⟨b, o, rfl, hps⟩ : ∃ b o, a = some ⟨b, o, none⟩ ∧ ∀ i y, L[i]? = some y → PtAt W b (o + i * 39) y.1 y.2 := by
          rcases HL.out with h | h
          · rw [h] at hx; simp at hx
          · exact h
        have HX := Lib.hid (HK.out x hxm)
        have hok : x.1.nm.ok := HX.out.1.1
        have hp := (hps k x hx).below HK1.out.bel
        have g1 := hp.has hok
        have g2 := hp.rd hok
        have HXL : Hid (x.1.bs.length ≤ 200) := Lib.hid (HS.out.2 x hxm)
        obtain ⟨aq, lq, cq, hqv, hlq, hlq2, hcq⟩ : ∃ aq lq cq, x.2 = .slice aq lq cq ∧ lq = x.1.bs.length ∧ lq ≤ cq ∧ cq ≤ maxLen := by
          obtain ⟨aq, cq, e, h1, h2, _⟩ := HX.out.2.1
          exact ⟨aq, x.1.bs.length, cq, e, rfl, h1, h2⟩
        have hone : x.2.oneCell' = true := by rw [hqv]; rfl
        have HQV := Lib.hid hqv
        have HLQ := Lib.hid hlq
        have HK60 : Hid (n ≤ 60) := Lib.hid (by rw [HN.out]; exact HS.out.1)
        clear hp hps hx hxm hqv hlq hcq
        go_upto_region 8 with fail
        obtain ⟨wo, rfl⟩ : ∃ wo : World, wo = wr := ⟨_, rfl⟩
        go_cut [10] (fun s10 wx => ∃ g, s10 = .pointer (some ⟨g, 0, none⟩) ∧ Hid (Boxed wo x g wx))
        case first =>
          go_wp2_with fail
          go_meet
          case rel => exact ⟨_, rfl, boxed_new wo x hok rfl⟩
        case rest =>
          obtain ⟨gp, rfl, HBX⟩ := hcut
          obtain ⟨wa, rfl⟩ : ∃ wa : World, wa = wc := ⟨_, rfl⟩
          clear g1 g2
          have g1 := HBX.out.1.has hok
          have g2 := HBX.out.1.rd hok
          go_upto_region 9 with fail
          go_cut [11] (fun s11 wx => ∃ g, s11 = .pointer (some ⟨g, 0, none⟩) ∧ Hid (Boxed wa x g wx))
          case first =>
            go_wp2_with fail
            go_meet
            case rel => exact ⟨_, rfl, boxed_new wa x hok rfl⟩
          case rest =>
            obtain ⟨gq, rfl, HBY⟩ := hcut
            obtain ⟨wb, rfl⟩ : ∃ wb : World, wb = wc := ⟨_, rfl⟩
            clear g1 g2
            have HBP := Lib.hid (HBX.out.1.below HBY.out.2.2.2.2)
            have p1 := (HBP.out.cells hok).2.2
            have p2 := (HBY.out.1.cells hok).2.2
            have p3 := HBY.out.2.1
            have p4 := HBY.out.2.2.2.1
            rw [Nat.zero_add] at p1 p2
            have p5 : gp < wb.heap.size := World.block_lt_of_cell? wb ⟨gp, 38, none⟩ p1
            have HBB : Hid (Bs wb x.2 x.1.bs) := Lib.hid (((HK1.out.bytes HX.out.2.1 (Nat.le_refl _)).below HBX.out.2.2.2.2).below HBY.out.2.2.2.2)
            rw [HQV.out] at p1 HBB
            have HP2 := Lib.hid p2
            have HP3 := Lib.hid p3
            go_upto_region 10 with fail
            go_cut [] (fun wx => Hid (∃ v2, TwoB wo x gp gq v2 wx))
            case first =>
              go_wp2_with (at_builtin; refine wpList_app' rfl _ _ rfl wb.heap.size _ [] rfl (own_lit wb [] #[] wb.heap.size rfl (Nat.le_refl _) (by decide)) _ x.1.bs rfl (HBB.out.alloc _) (by have := HXL.out; simp; omega) (by simp) ?_; intro Y2 a2 c2 w8 E2 O2 L2 N2 hc2; have c8 := (L2.out.cell (p := ⟨gq, 38, none⟩) p4).trans (below_cells (below_alloc wb _) _ _ HP2.out); have z8 := (L2.out.frozen (p := ⟨gq, 38, none⟩) p4).trans (((below_alloc wb _).frozen (p := ⟨gq, 38, none⟩) p4).trans HP3.out))
              go_meet
              case rel => exact Lib.hid ⟨_, twoB_new HBX.out HBY.out hok (by have h := O2.out; rw [E2.out] at h ⊢; exact h) L2.out⟩
            case rest =>
              obtain ⟨v2, H2⟩ := hcut.out
              obtain ⟨w3, rfl⟩ : ∃ w3 : World, w3 = wc := ⟨_, rfl⟩
              have H2 := Lib.hid H2
              clear p1 p2 p3 p4 p5 HBP HBB HP2 HP3 HBX HBY hcut
              have HS1 := Lib.hid HK1.out.tb.sub
              have HS2 := Lib.hid HK2.out.tb.sub
              have HA1 := Lib.hid (HK1.out.below H2.out.bel)
              have HA2 := Lib.hid (HK2.out.below H2.out.bel)
              have HBW := Lib.hid HK1.out.sz
              have f1 := H2.out.p.has hok
              have f2 := H2.out.p.rd hok
              go_wp2_with fail
              obtain ⟨T', bs, is, d, hR⟩ : ∃ T' bs is d, takeS many most T x.1 = ⟨T', bs, is, d⟩ := ⟨_, _, _, _, rfl⟩
              have HR := Lib.hid hR
              clear hR
              refine (ks_take HA1.out HR.out (by have := HK60.out; omega) HX.out.1 (HA1.out.bytes HX.out.2.1 (Nat.le_refl _)) (HA1.out.far HX.out.2.1 (Nat.le_refl _)) hmost (by have := HXL.out; omega)).mono ?_
              rintro e w4 ⟨u1, M1', rfl, ho1, hk1, _, hon1, hm1⟩
              have HO1 := Lib.hid ho1
              have HK1' := Lib.hid hk1
              have HN1 := Lib.hid hon1
              have HM1 := Lib.hid hm1
              obtain ⟨a1, c1, rfl, _, _⟩ := ownsRow_shape ho1
              have H4 := Lib.hid (fo4 HA1.out HA2.out HD.out HS1.out HS2.out H2.out HN1.out)
              clear ho1 hk1 hon1 hm1 f1 f2
              have f1 := H4.out.2.1.has hok
              have f2 := H4.out.2.1.rd hok
              go_wp2_with fail
              refine (ks_take H4.out.1 HR.out (by have := HK60.out; omega) HX.out.1 H4.out.2.2.1.bs (fun _ => H4.out.2.2.2) hmost (by have := HXL.out; omega)).mono ?_
              rintro e w5 ⟨u2, M2', rfl, ho2, hk2, hn2, hon2, hm2⟩
              have H5 : Hid (Fo5 W W.heap.size F1 F2 many most T' (k + 1) gq v2 (.slice a1 bs.length c1) u2 x.1.bs bs w5 M1' M2') := Lib.hid (fo5 hok HA1.out HA2.out HD.out HS1.out HS2.out HBW.out H2.out HN1.out HO1.out HK1'.out HM1.out hon2 ho2 hk2 hm2 hn2)
              obtain ⟨a2, c2, rfl, _, _⟩ := ownsRow_shape ho2
              have e1 := conv_bs H5.out.o1.bs
              have e2 := conv_bs H5.out.o2.bs
              obtain ⟨a3, c3, rfl, hc31, hc32⟩ := ownsRow_shape H5.out.ov
              clear ho2 hk2 hn2 hon2 hm2 f1 f2 H2 H4 HA1 HA2 HS1 HS2 HO1 HK1' HN1 HM1 HK1 HK2 HD
              rw [← HLQ.out] at H5 hc31
              have q1 := H5.out.cq
              obtain ⟨lu, hlu⟩ : ∃ l, l = bs.length := ⟨_, rfl⟩
              have HLU := Lib.hid hlu
              go_upto_region 15 with fail
              clear e1 e2
              rw [← hlu] at H5 ⊢
              have hlu2 : lu ≤ 9223372036854775807 := by omega
              clear hlu
              go_wp2_with fail
              obtain ⟨wo5, rfl⟩ : ∃ wo5 : World, wo5 = w5 := ⟨_, rfl⟩
              go_loopw [74] (fun jx wz => ∃ j : Nat, jx = .int .i64 j ∧ j ≤ lq ∧ Hid (Flp wo5 (.slice a3 lq c3) lq wz)) (fun jx _ => lq - (intOf jx).toNat)
              case atStart => exact ⟨0, rfl, Nat.zero_le _, flp_start H5.out.ov HLQ.out⟩
              case round =>
                obtain ⟨j, rfl, hj, HF⟩ := hrel
                obtain ⟨wz, rfl⟩ : ∃ wz : World, wz = wr := ⟨_, rfl⟩
                by_cases hlt2 : j < lq
                · obtain ⟨g2, xb, yb, rfl, cb, fb, hx, hF⟩ := Flp.cell HF.out.drew hlt2
                  have HFN := Lib.hid hF
                  have HCB := Lib.hid cb
                  have HFB := Lib.hid fb
                  have HCQ := Lib.hid (H5.out.cellq HF.out.drew)
                  have hne : ¬ (g2 = gq) := (H5.out.nv g2 rfl).2.2.2
                  have i0 : (0 : Int) ≤ (j : Int) := by omega
                  have i1 : (j : Int) < (lq : Int) := by omega
                  clear hF cb fb q1
                  go_upto_region 18 with fail
                  refine wp_region_held_drew (S := fun w' => SF gq (.slice (some ⟨g2, 0, none⟩) lq c3) w') (by kernel_rfl) (⟨HCQ.out, trivial⟩) (fun hHeld => ?_)
                  refine' wpAnyH_take (i := 0) (v := _) rfl (by kernel_rfl) (by kernel_rfl) (by kernel_rfl) (fun _ _ _ h => h) (Or.inl ⟨by rfl, ?hy1⟩) hHeld ?rest1
                  case hy1 => (intro w' hS; obtain ⟨s1, s2⟩ := hS; (try simp only [List.getElem_toArray, List.getElem_cons_zero, List.getElem_cons_succ]); go_simp; try with_reducible rfl)
                  try simp only [List.getElem_toArray, List.getElem_cons_zero, List.getElem_cons_succ, Act.put, List.setIfInBounds_toArray, List.set_cons_zero, List.set_cons_succ]
                  refine' wpAnyH_take (i := 1) (v := _) rfl (by kernel_rfl) (by kernel_rfl) (by kernel_rfl) (fun _ _ _ h => h) (Or.inl ⟨by rfl, ?hy2⟩) hHeld ?rest2
                  case hy2 => (intro w' hS; obtain ⟨s1, s2⟩ := hS; (try simp only [List.getElem_toArray, List.getElem_cons_zero, List.getElem_cons_succ]); go_simp; try with_reducible rfl)
                  try simp only [List.getElem_toArray, List.getElem_cons_zero, List.getElem_cons_succ, Act.put, List.setIfInBounds_toArray, List.set_cons_zero, List.set_cons_succ]
                  refine' wpAnyH_take (i := 2) (v := _) rfl (by kernel_rfl) (by kernel_rfl) (by kernel_rfl) (fun _ _ _ h => h) (Or.inl ⟨by rfl, ?hy3⟩) hHeld ?rest3
                  case hy3 => (intro w' hS; obtain ⟨s1, s2⟩ := hS; (try simp only [List.getElem_toArray, List.getElem_cons_zero, List.getElem_cons_succ]); go_simp; try with_reducible rfl)
                  try simp only [List.getElem_toArray, List.getElem_cons_zero, List.getElem_cons_succ, Act.put, List.setIfInBounds_toArray, List.set_cons_zero, List.set_cons_succ]
                  refine' wpAnyH_take (i := 3) (v := _) rfl (by kernel_rfl) (by kernel_rfl) (by kernel_rfl) (fun _ _ _ h => h) (Or.inl ⟨by rfl, ?hy4⟩) hHeld ?rest4
                  case hy4 => (intro w' hS; obtain ⟨s1, s2⟩ := hS; (try simp only [List.getElem_toArray, List.getElem_cons_zero, List.getElem_cons_succ]); go_simp; try with_reducible rfl)
                  try simp only [List.getElem_toArray, List.getElem_cons_zero, List.getElem_cons_succ, Act.put, List.setIfInBounds_toArray, List.set_cons_zero, List.set_cons_succ]
                  refine' wpAnyH_take (i := 4) (v := _) rfl (by kernel_rfl) (by kernel_rfl) (by kernel_rfl) (fun _ _ _ h => h) (Or.inl ⟨by rfl, ?hy5⟩) hHeld ?rest5
                  case hy5 => (intro w' hS; obtain ⟨s1, s2⟩ := hS; (try simp only [List.getElem_toArray, List.getElem_cons_zero, List.getElem_cons_succ]); go_simp; try with_reducible rfl)
                  try simp only [List.getElem_toArray, List.getElem_cons_zero, List.getElem_cons_succ, Act.put, List.setIfInBounds_toArray, List.set_cons_zero, List.set_cons_succ]
                  refine' wpAnyH_take (i := 5) (v := _) rfl (by kernel_rfl) (by kernel_rfl) (by kernel_rfl) (fun _ _ _ h => h) (Or.inl ⟨by rfl, ?hy6⟩) hHeld ?rest6
                  case hy6 => (intro w' hS; obtain ⟨s1, s2⟩ := hS; (try simp only [List.getElem_toArray, List.getElem_cons_zero, List.getElem_cons_succ]); go_simp; try with_reducible rfl)
                  try simp only [List.getElem_toArray, List.getElem_cons_zero, List.getElem_cons_succ, Act.put, List.setIfInBounds_toArray, List.set_cons_zero, List.set_cons_succ]
                  refine' wpAnyH_take (i := 6) (v := _) rfl (by kernel_rfl) (by kernel_rfl) (by kernel_rfl) (fun _ _ _ h => h) (Or.inl ⟨by rfl, ?hy7⟩) hHeld ?rest7
                  case hy7 => (intro w' hS; obtain ⟨s1, s2⟩ := hS; (try simp only [List.getElem_toArray, List.getElem_cons_zero, List.getElem_cons_succ]); go_simp; try with_reducible rfl)
                  try simp only [List.getElem_toArray, List.getElem_cons_zero, List.getElem_cons_succ, Act.put, List.setIfInBounds_toArray, List.set_cons_zero, List.set_cons_succ]
                  refine wpAnyH_ready (rs := [7]) (by kernel_rfl) (by simp) ?_
                  refine (AllReadyH.cons rfl (fun K hK => ?_) AllReadyH.nil)
                  obtain ⟨s1, s2⟩ := hHeld
                  have cb := HCB.out
                  go_simp
                  clear cb s1 s2
                  go_wp2_with fail
                  refine hK.out _ _ (⟨HCQ.out, trivial⟩) (fun hHeld => ?_)
                  clear hK K
                  try simp only [List.getElem_toArray, List.getElem_cons_zero, List.getElem_cons_succ, Act.put, List.setIfInBounds_toArray, List.set_cons_zero, List.set_cons_succ]
                  refine' wpAnyH_take (i := 8) (v := _) rfl (by kernel_rfl) (by kernel_rfl) (by kernel_rfl) (fun _ _ _ h => h) (Or.inl ⟨by rfl, ?hy9⟩) hHeld ?rest9
                  case hy9 => (intro w' hS; obtain ⟨s1, s2⟩ := hS; (try simp only [List.getElem_toArray, List.getElem_cons_zero, List.getElem_cons_succ]); go_simp; try with_reducible rfl)
                  try simp only [List.getElem_toArray, List.getElem_cons_zero, List.getElem_cons_succ, Act.put, List.setIfInBounds_toArray, List.set_cons_zero, List.set_cons_succ]
                  refine' wpAnyH_take (i := 9) (v := _) rfl (by kernel_rfl) (by kernel_rfl) (by kernel_rfl) (fun _ _ _ h => h) (Or.inl ⟨by rfl, ?hy10⟩) hHeld ?rest10
                  case hy10 => (intro w' hS; obtain ⟨s1, s2⟩ := hS; (try simp only [List.getElem_toArray, List.getElem_cons_zero, List.getElem_cons_succ]); go_simp; try with_reducible rfl)
                  try simp only [List.getElem_toArray, List.getElem_cons_zero, List.getElem_cons_succ, Act.put, List.setIfInBounds_toArray, List.set_cons_zero, List.set_cons_succ]
                  refine wpAnyH_ready (rs := [10]) (by kernel_rfl) (by simp) ?_
                  refine (AllReadyH.cons rfl (fun K hK => ?_) AllReadyH.nil)
                  obtain ⟨s1, s2⟩ := hHeld
                  have cb := HCB.out
                  have fb := HFB.out
                  go_simp
                  clear cb fb s1 s2
                  go_wp2_with fail
                  refine hK.out _ _ (⟨H5.out.cellq HFN.out, trivial⟩) (fun hHeld => ?_)
                  clear hK K
                  try simp only [List.getElem_toArray, List.getElem_cons_zero, List.getElem_cons_succ, Act.put, List.setIfInBounds_toArray, List.set_cons_zero, List.set_cons_succ]
                  refine wpAnyH_done (by kernel_rfl) ?_ _
                  go_wp2_with fail
                  go_roundw
                  case rel => exact ⟨j + 1, by go_num, by omega, HFN.out⟩
                  case measure => simp [intOf]; omega
                · obtain rfl : j = lq := by omega
                  have H6 := Lib.hid (H5.out.flip HF.out)
                  have HNU := Lib.hid H5.out.nu
                  have HDI := Lib.hid H5.out.dis
                  clear H5 q1
                  go_wp2_with fail
                  obtain ⟨w6, rfl⟩ : ∃ w6 : World, w6 = wz := ⟨_, rfl⟩
                  go_loopw [90] (fun jx wz => ∃ j : Nat, jx = .int .i64 j ∧ j ≤ lu ∧ Hid (Flp w6 (.slice a2 lu c2) lu wz)) (fun jx _ => lu - (intOf jx).toNat)
                  case atStart => exact ⟨0, rfl, Nat.zero_le _, flp_start H6.out.2.2 HLU.out⟩
                  case round =>
                    obtain ⟨i, rfl, hi, HG⟩ := hrel
                    by_cases hlt3 : i < lu
                    · obtain ⟨g2, xb, yb, rfl, cb, fb, hx, hF⟩ := Flp.cell HG.out hlt3
                      have HFN := Lib.hid hF
                      clear hF
                      go_wp2_with fail
                      go_roundw
                      case rel => exact ⟨i + 1, by go_num, by omega, HFN.out⟩
                      case measure => simp [intOf]; omega
                    · obtain rfl : i = lu := by omega
                      have HE : Hid (Pair2 W F1 F2 many most n (.int .i64 (k + 1 : Nat)) _) := Lib.hid ⟨k + 1, _, _, _, rfl, hlt, H6.out.1.only HG.out.2 (fun q a b => (HNU.out q b).1 a) (fun q b => (HNU.out q b).2.2), H6.out.2.1.only HG.out.2 (fun q a b => (HNU.out q b).2.1 a) (fun q b => (HNU.out q b).2.2), HDI.out⟩
                      go_wp2_with fail
                      go_roundw
                      case rel => exact HE.out
                      case measure => simp [intOf]; omega
      · obtain rfl : k = n := by omega
        go_wp2_with fail
        go_ret
        exact ⟨rfl, HK1.out.bel⟩
  · clear hg
    go_wp2_with fail
    go_ret
    exact ⟨rfl, HB1.out⟩
end Go.Proofs.Ytnckmaieghlpmaa
