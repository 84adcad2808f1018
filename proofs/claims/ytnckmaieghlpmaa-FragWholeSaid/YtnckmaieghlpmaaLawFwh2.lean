/-
  The walk of the law FragWhole.
-/
import Derived.Test.YtnckmaieghlpmaaLawFwh
namespace Go.Proofs.Ytnckmaieghlpmaa
open Go.RowKit
set_option linter.unusedVariables false
set_option linter.unusedSimpArgs false
attribute [local go_sem ↓] fold_ld54 fold_st54 fold_ld90 fold_st90 fold_ld121 fold_st121 fold_ld124 fold_st124 Go.wp_at_zero Go.wp_at_succ
attribute [local go_sem] ld54_at st54_at ld90_at st90_pt ld121_at st121_nm ld124_at free_new1 bx36 bx37 bx38 bxhas bxrd

set_option maxRecDepth 100000 in
set_option maxHeartbeats 8000000 in
theorem law_fwh (W : World) (many most : Int) (y : PartD) (u vb vs vw : Value) (b sizes sws : List UInt8) (twice : Bool) (hy : y.nm.fit) (hu : u.oneCell' = true) (hb : Bs W vb b) (hs : Bs W vs sizes) (hw : Bs W vw sws) (hmost : most ≤ 9223372036854775807) :
    Calls Try.prog 19 #[.int .i64 many, .int .i64 most, .agg (partA y u), vb, vs, vw, .bool twice] W fun e W' => e = .returned (.bool true) ∧ Below W.heap.size W W' := by
  have HY := Lib.hid hy
  have HB := Lib.hid hb
  have HS := Lib.hid hs
  have HWW := Lib.hid hw
  obtain ⟨a1, c1, rfl, hb1, hb2, _⟩ := hb
  obtain ⟨a2, c2, rfl, hs1, hs2, _⟩ := hs
  obtain ⟨a3, c3, rfl, hw1, hw2, _⟩ := hw
  obtain ⟨lb, hlb⟩ : ∃ l, l = b.length := ⟨_, rfl⟩
  obtain ⟨ls, hls⟩ : ∃ l, l = sizes.length := ⟨_, rfl⟩
  obtain ⟨lw, hlw⟩ : ∃ l, l = sws.length := ⟨_, rfl⟩
  have HLB := Lib.hid hlb
  have HLS := Lib.hid hls
  have HLW := Lib.hid hlw
  rw [← hlb] at hb1 HB ⊢
  rw [← hls] at hs1 HS ⊢
  rw [← hlw] at hw1 HWW ⊢
  unfold maxLen at hb2 hs2 hw2
  have HP0 : Hid (PtAt (W.alloc (.cells (partA y u) 90)) W.heap.size 0 y u ∧ Below W.heap.size W (W.alloc (.cells (partA y u) 90))) := Lib.hid ⟨ptAt_new W y u 90, below_alloc W _⟩
  obtain ⟨gf, hgf⟩ : ∃ g, g = W.heap.size := ⟨_, rfl⟩
  have HGF := Lib.hid hgf
  clear hy hlb hls hlw
  go_enter Try.func19, Try.ntmps19
  go_upto_region 1 with fail
  generalize W.alloc (.cells (partA y u) 90) = W1 at HP0 ⊢
  rw [← hgf] at HP0 ⊢
  clear hgf
  go_wp2_with fail
  refine (known17 _).mono ?_
  rintro e w1 ⟨rfl, hb1'⟩
  have HB1 : Hid (PtAt w1 gf 0 y u ∧ Below W.heap.size W w1) := Lib.hid ⟨HP0.out.1.below hb1', by have := HP0.out.2; rw [HGF.out] at this; exact this.then hb1'⟩
  clear hb1' HP0
  by_cases g1 : many < 1
  · go_wp2_with fail
    go_ret
    exact ⟨rfl, HB1.out.2⟩
  by_cases g2 : most < (lb : Int)
  · go_wp2_with fail
    go_ret
    exact ⟨rfl, HB1.out.2⟩
  by_cases g3 : lb = 0
  · subst g3
    go_wp2_with fail
    go_ret
    exact ⟨rfl, HB1.out.2⟩
  have hlb1 : ((lb : Int) == 0) = false := by simp; exact g3
  have hlb2 : ¬ ((lb : Int) = 0) := by omega
  by_cases g4 : 1000 < lb
  · go_wp2_with fail
    go_ret
    exact ⟨rfl, HB1.out.2⟩
  by_cases g5 : 60 < ls
  · go_wp2_with fail
    go_ret
    exact ⟨rfl, HB1.out.2⟩
  by_cases g6 : 60 < lw
  · go_wp2_with fail
    go_ret
    exact ⟨rfl, HB1.out.2⟩
  go_wp2_with fail
  refine (new_any w1 many most).mono ?_
  rintro e w2 ⟨rfl, rfl⟩
  have K2 : Hid (KS W W.heap.size (w1.alloc (.cells #[.int .i64 many, .int .i64 most, .slice none 0 0] 115)) (fun k => k = w1.heap.size) w1.heap.size many most [] 0) := Lib.hid (ks_new W w1 W.heap.size many most 0 HB1.out.2 HB1.out.2.size)
  have HPT : Hid (PtAt (w1.alloc (.cells #[.int .i64 many, .int .i64 most, .slice none 0 0] 115)) gf 0 y u) := Lib.hid (HB1.out.1.below (below_alloc _ _))
  obtain ⟨M0, hM0⟩ : ∃ M0 : Nat → Prop, M0 = fun k => k = w1.heap.size := ⟨_, rfl⟩
  rw [← hM0] at K2
  clear hM0
  generalize (w1.alloc (.cells #[.int .i64 many, .int .i64 most, .slice none 0 0] 115)) = w2 at K2 HPT ⊢
  generalize w1.heap.size = F at K2 ⊢
  clear HB1 hlb1 hlb2
  have hok := HY.out.1
  have f1 := HPT.out.has hok
  have f2 := HPT.out.rd hok
  have HSB := Lib.hid (HS.out.below (w' := w2) (K2.out.bel))
  have HWB := Lib.hid (HWW.out.below (w' := w2) (K2.out.bel))
  have HCUT := Lib.hid (cut_any W w2 y u (.slice a1 lb c1) (.slice a2 ls c2) b sizes hok hu HB.out HSB.out (by rw [← HLB.out]; omega) (by rw [← HLS.out]; omega))
  go_wp2_with fail
  refine HCUT.out.mono ?_
  rintro e w3 ⟨v, k, rfl, hk, hpos, hend, hcm⟩
  obtain ⟨L, hL1, hL2, hL3, hL4⟩ := hcm
  have HPA : Hid (Parted most y.nm b (L.map (·.1))) := Lib.hid (by rw [hL1]; exact cut_parted (by rw [← HLB.out]; omega) hpos hend (by intro e; have := HLB.out; rw [e] at this; simp at this; omega))
  have hk126 : k ≤ 126 := cut_few hpos (by rw [← HLB.out]; omega)
  have HL3 := Lib.hid hL3
  have HBEL := Lib.hid hL4
  have K3 := Lib.hid (K2.out.below hL4)
  have HROW := Lib.hid hL2
  have HMIX := Lib.hid (mix_any w3 w2.heap.size k v (.slice a3 lw c3) L sws hL2 hk (HWB.out.below hL4) (fun hne q hq hv => by
    have h1 := bs_lt HWW.out hne q hq
    have h2 := (World.ownsRow.lt hL2.own q hv).1
    have h3 := K2.out.sz
    omega))
  obtain ⟨av, cv, rfl, hcv1, hcv2⟩ := ownsRow_shape hL2.own
  clear hL1 hL2 hL3 hL4 hpos hend HCUT f1 f2
  go_wp2_with fail
  refine HMIX.out.mono ?_
  rintro e w4 ⟨rfl, L', hperm, hrow, hon⟩
  have HPC : Hid ((L'.map (·.1)).Perm (L.map (·.1))) := Lib.hid (hperm.map _)
  have hkl : L'.length = k := hrow.len
  have hk0 : 0 < k := by
    have h1 := (whole_last HPA.out.whole).1
    have h2 := HPC.out.length_eq
    rw [List.length_map, List.length_map] at h2
    have h3 : (L.map (·.1)).length ≠ 0 := fun e => h1 (List.eq_nil_of_length_eq_zero e)
    rw [List.length_map] at h3
    omega
  obtain ⟨g, cv', hvv, _, _⟩ := own_some hrow.own (by omega)
  cases hvv
  have hk200 : k ≤ 1048576 := hk
  have H4 : Hid (WhS W F many most y.nm b (.slice (some ⟨g, 0, none⟩) k cv) k w2.heap.size L' 0 0 w4) := Lib.hid ⟨hrow, fun z hz => HL3.out z (hperm.subset hz), [], M0, 0, Nat.le_refl _, rfl, List.Pairwise.nil, List.Perm.refl _, K3.out.only hon (fun q h1 h2 => by
    have h3 := K2.out.tb.sub q h1
    have h4 := (World.ownsRow.lt hrow.own q h2).1
    omega) (fun q h2 => by have h4 := (World.ownsRow.lt hrow.own q h2).1; have := K2.out.sz; omega), fun q h2 h1 => by
    have h3 := K2.out.tb.sub q h1
    have h4 := (World.ownsRow.lt hrow.own q h2).1
    omega⟩
  have HLEN := Lib.hid hkl
  have hm1 : 1 ≤ many := by omega
  have HM1 := Lib.hid hm1
  have HLBB : Hid (lb ≤ 1000) := Lib.hid (by omega)
  have wk : IntKind.i64.wrap ((k : Int) - 1) = (k : Int) - 1 := by rw [IntKind.wrap_i64]; omega
  clear hperm hrow hon K2 K3 HROW HMIX HL3 HBEL HPT HSB HWB hk hkl hm1 g1 g2 g3 g4 g5 g6
  go_wp2_with fail
  go_loopw [17, 69] (fun s17 s69 wr => ∃ j bn : Nat, s69 = .int .i64 j ∧ s17 = .int .i64 bn ∧ j < k ∧ bn ≤ 1000 ∧ Hid (WhS W F many most y.nm b (.slice (some ⟨g, 0, none⟩) k cv) k w2.heap.size L' j bn wr)) (fun _ s69 _ => k - (intOf s69).toNat)
  case atStart => exact ⟨0, 0, rfl, rfl, hk0, by omega, H4.out⟩
  case round =>
    obtain ⟨j, bn, rfl, rfl, hjk, hbn, HWS⟩ := hrel
    obtain ⟨x, hx⟩ : ∃ x, L'[j]? = some x := ⟨L'[j]'(by rw [HLEN.out]; exact hjk), by rw [List.getElem?_eq_getElem]⟩
    have hxm := List.mem_of_getElem? hx
    have HXC : Hid (x.1 ∈ L.map (·.1)) := Lib.hid (HPC.out.subset (List.mem_map_of_mem hxm))
    have HXN : Hid (x.1.nm = y.nm) := Lib.hid (HPA.out.nm _ HXC.out)
    have hok2 : x.1.nm.ok := by rw [HXN.out]; exact HY.out.1
    have HFIT : Hid (x.1.nm.fit) := Lib.hid (by rw [HXN.out]; exact HY.out)
    have hone : x.2.oneCell' = true := (HWS.out.row.ok x hxm).2
    have hp1 := (HWS.out.row.at rfl hx).1
    have f1 := hp1.has hok2
    have f2 := hp1.rd hok2
    have HBX0 := Lib.hid (HWS.out.bs x hxm)
    have HXB : Hid (x.1.bs.length ≤ 1000) := Lib.hid (by
      have h1 := (may_spec (HPA.out.may _ HXC.out))
      have h2 := (bytesP_join (L.map (·.1)))
      rw [HPA.out.join, ← HLB.out] at h2
      have h3 : x.1.bs.length ≤ bytesP (L.map (·.1)) := bytesP_mem HXC.out
      have := HLBB.out
      omega)
    have HDR := Lib.hid (drop_one hx)
    obtain ⟨lq, hlq⟩ : ∃ l, l = x.1.bs.length := ⟨_, rfl⟩
    have HLQ := Lib.hid hlq
    obtain ⟨aq, cq, hqv, hq1, hq2, _⟩ := HBX0.out
    rw [← hlq] at hqv hq1
    unfold maxLen at hq2
    have HQV := Lib.hid hqv
    have hlq1 : lq ≤ 1000 := by rw [hlq]; exact HXB.out
    clear hp1 hx hxm hlq hqv
    go_upto_region 10 with fail
    obtain ⟨wo, rfl⟩ : ∃ wo : World, wo = wr := ⟨_, rfl⟩
    go_cut [18, 19] (fun s18 s19 wx => s18 = .int .i64 j ∧ ∃ q, s19 = .pointer (some ⟨q, 0, none⟩) ∧ Hid (Boxed wo x q wx))
    case first =>
      go_wp2_with fail
      go_meet
      case rel => exact ⟨rfl, _, rfl, boxed_new wo x hok2 rfl⟩
    case rest =>
      obtain ⟨rfl, q, rfl, HBX⟩ := hcut
      obtain ⟨wb, rfl⟩ : ∃ wb : World, wb = wc := ⟨_, rfl⟩
      obtain ⟨ps, M, m, hm, hby, hap, hpm, hK, hvM⟩ := HWS.out.tab
      have HKB := Lib.hid (hK.below HBX.out.2.2.2.2)
      have HM := Lib.hid hm
      have HBYN := Lib.hid hby
      have HVM := Lib.hid hvM
      have HQM : Hid (¬ M q) := Lib.hid (fun e => by have h1 := hK.tb.sub q e; have h2 := HBX.out.2.2.1; omega)
      have HTK := Lib.hid (HPA.out.take (many := many) HM1.out (ps := ps) (p := x.1) (rest := (L'.map (·.1)).drop (j + 1)) ((by rw [← HDR.out]; exact hpm : (ps ++ x.1 :: (L'.map (·.1)).drop (j + 1)).Perm (L'.map (·.1))).trans HPC.out) hap)
      have HRB : Hid (RowP wb w2.heap.size (.slice (some ⟨g, 0, none⟩) k cv) k L') := Lib.hid (HWS.out.row.below HBX.out.2.2.2.2)
      clear f1 f2 hm hby hap hpm hK hvM
      have f1 := HBX.out.1.has hok2
      have f2 := HBX.out.1.rd hok2
      have HBSX := Lib.hid (HKB.out.bytes HBX0.out (Nat.le_refl _))
      have HFAR := Lib.hid (HKB.out.far HBX0.out (Nat.le_refl _))
      by_cases hlast : j + 1 = k
      · have hR : takeS many most (oneT y.nm ps) x.1 = ⟨[], b, true, 0⟩ := by
          rw [HTK.out.1, if_pos (List.drop_eq_nil_of_le (by rw [List.length_map, HLEN.out]; omega))]
        have HR := Lib.hid hR
        clear hR
        go_wp2_with fail
        refine (ks_take HKB.out HR.out (by have := HM.out; omega) HFIT.out HBSX.out HFAR.out hmost (by have := HXB.out; omega)).mono ?_
        rintro e w6 ⟨u1, M6, rfl, ho6, hk6, _, _, _⟩
        obtain ⟨au, cu, rfl, _, _⟩ := ownsRow_shape ho6
        have HO6 := Lib.hid ho6
        have HK6 := Lib.hid hk6
        clear ho6 hk6 f1 f2
        go_wp2_with fail
        refine (ks_live HK6.out (by have := HM.out; omega)).mono ?_
        rintro e w7 ⟨rfl, hb7⟩
        have HK7 := Lib.hid (HK6.out.below hb7)
        have e1 := conv_bs (HO6.out.bs.below hb7)
        have e2 := conv_bs (HK7.out.bytes HB.out (Nat.le_refl _))
        rw [← HLB.out] at e1
        rw [← HLB.out]
        have hbyt : bytesT ([] : List PkT) = 0 := rfl
        have hlen : ([] : List PkT).length = 0 := rfl
        rw [hbyt, hlen]
        have hjl : ((j : Int) == (k : Int) - 1) = true := by simp; omega
        have hjl2 : (j : Int) = (k : Int) - 1 := by omega
        clear hb7 hbyt hlen
        go_wp2_with fail
        go_ret
        exact ⟨rfl, HK7.out.bel⟩
      · have hR : takeS many most (oneT y.nm ps) x.1 = ⟨oneT y.nm (insPt x.1 ps), [], false, 7⟩ := by
          rw [HTK.out.1, if_neg (fun e => by
            have := congrArg List.length e
            rw [List.length_drop, List.length_map, HLEN.out] at this
            simp at this; omega)]
        have HR := Lib.hid hR
        clear hR
        go_wp2_with fail
        refine (ks_take HKB.out HR.out (by have := HM.out; omega) HFIT.out HBSX.out HFAR.out hmost (by have := HXB.out; omega)).mono ?_
        rintro e w6 ⟨u1, M6, rfl, ho6, hk6, _, hon6, hm6⟩
        obtain ⟨au, cu, rfl, _, _⟩ := ownsRow_shape ho6
        have HK6 := Lib.hid hk6
        have HP6 : Hid (PtAt w6 q 0 x.1 x.2) := Lib.hid (HBX.out.1.only hon6 HQM.out)
        have HR6 := Lib.hid (HRB.out.only hon6 HVM.out)
        have HM6 : Hid (∀ i, M6 i → M i ∨ wb.heap.size ≤ i) := Lib.hid hm6
        have HBS6 : Hid (Below w6.heap.size w6 w6) := Lib.hid (Below.refl _ _)
        have HSZ6 := Lib.hid hon6.size
        clear ho6 hk6 hon6 hm6 f1 f2
        go_wp2_with fail
        refine (ks_live HK6.out (by have := HM.out; omega)).mono ?_
        rintro e w7 ⟨rfl, hb7⟩
        have HK7 := Lib.hid (HK6.out.below hb7)
        have HP7 := Lib.hid (HP6.out.below hb7)
        have HR7 := Lib.hid (HR6.out.below hb7)
        have hone1 := (oneT_len (n := y.nm) (p := x.1) (ps := ps)).1
        have hone2 := (oneT_len (n := y.nm) (p := x.1) (ps := ps)).2
        rw [HTK.out.2.2.2, ← HBYN.out, ← HLQ.out] at hone2
        rw [hone1, hone2]
        have hjl : ((j : Int) == (k : Int) - 1) = false := by simp; omega
        have hjl2 : ¬ ((j : Int) = (k : Int) - 1) := by omega
        have c8 := (HP7.out.cells hok2).2.2
        rw [Nat.zero_add, HQV.out] at c8
        have HBN2 : Hid (bn + lq ≤ 1000) := Lib.hid (by
          have h1 := bytesP_perm HTK.out.2.2.1
          have h2 := (bytesP_join (L.map (·.1)))
          rw [HPA.out.join, ← HLB.out] at h2
          have h3 : bytesP (insPt x.1 ps ++ (L'.map (·.1)).drop (j + 1)) = bytesP (insPt x.1 ps) + bytesP ((L'.map (·.1)).drop (j + 1)) := by simp [bytesP]
          rw [HTK.out.2.2.2, ← HBYN.out, ← HLQ.out] at h3
          have := HLBB.out
          omega)
        clear hb7 hone1 hone2
        rcases twice with _ | _
        · go_wp2_with fail
          go_roundw
          case rel => exact ⟨j + 1, bn + lq, by go_num, by go_num, by omega, HBN2.out, HR7.out, HWS.out.bs, insPt x.1 ps, M6, m + 1, by have := HM.out; omega, by rw [HTK.out.2.2.2, ← HBYN.out, ← HLQ.out], HTK.out.2.1, HTK.out.2.2.1.trans HPC.out.symm, HK7.out, fun i hi hm => by
            rcases HM6.out i hm with h1 | h1
            · exact HVM.out i hi h1
            · have := (World.ownsRow.lt HRB.out.own i hi).2; omega⟩
          case measure => simp [intOf]; omega
        · have f1 := HP7.out.has hok2
          have f2 := HP7.out.rd hok2
          have hR2 : takeS many most (oneT y.nm (insPt x.1 ps)) x.1 = ⟨oneT y.nm (insPt x.1 ps), [], false, 7⟩ := HPA.out.again HM1.out HXC.out (insPt_mem.2 (.inl rfl))
          have HR2 := Lib.hid hR2
          clear hR2
          go_wp2_with fail
          refine (ks_take HK7.out HR2.out (by have := HM.out; omega) HFIT.out (HK7.out.bytes HBX0.out (Nat.le_refl _)) (HK7.out.far HBX0.out (Nat.le_refl _)) hmost (by have := HXB.out; omega)).mono ?_
          rintro e w8 ⟨u2, M8, rfl, ho8, hk8, _, hon8, hm8⟩
          obtain ⟨au2, cu2, rfl, _, _⟩ := ownsRow_shape ho8
          have HK8 := Lib.hid hk8
          have HV6 : Hid (∀ i, (Value.slice (some ⟨g, 0, none⟩) k cv).ownBlock = some i → ¬ M6 i) := Lib.hid (fun i hi hm => by
            rcases HM6.out i hm with h1 | h1
            · exact HVM.out i hi h1
            · have := (World.ownsRow.lt HRB.out.own i hi).2; omega)
          have HR8 := Lib.hid (HR7.out.only hon8 HV6.out)
          have HM8 : Hid (∀ i, M8 i → M6 i ∨ w7.heap.size ≤ i) := Lib.hid hm8
          clear ho8 hk8 hon8 hm8 f1 f2
          go_wp2_with fail
          go_roundw
          case rel => exact ⟨j + 1, bn + lq, by go_num, by go_num, by omega, HBN2.out, HR8.out, HWS.out.bs, insPt x.1 ps, M8, m + 1 + 1, by have := HM.out; omega, by rw [HTK.out.2.2.2, ← HBYN.out, ← HLQ.out], HTK.out.2.1, HTK.out.2.2.1.trans HPC.out.symm, HK8.out, fun i hi hm => by
            rcases HM8.out i hm with h1 | h1
            · exact HV6.out i hi h1
            · have := (World.ownsRow.lt HR7.out.own i hi).2; omega⟩
          case measure => simp [intOf]; omega
end Go.Proofs.Ytnckmaieghlpmaa
