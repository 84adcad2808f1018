/-
  The law FragBound: a table never keeps more than it may.
-/
import Derived.Test.YtnckmaieghlpmaaZ8
import Derived.Test.YtnckmaieghlpmaaFspec2
import Derived.Deep.DeepCutAuto
namespace Go.Proofs.Ytnckmaieghlpmaa
open Go.RowKit
set_option linter.unusedVariables false
set_option linter.unusedSimpArgs false
attribute [local go_sem ↓] fold_ld54 fold_st54 fold_ld90 fold_st90 fold_ld121 fold_st121 fold_ld124 fold_st124 Go.wp_at_zero Go.wp_at_succ
attribute [local go_sem] ld54_at st54_at ld90_at st90_pt ld121_at st121_nm ld124_at free_new1 bx36 bx37 bx38 bxhas bxrd

def Loop21 (W : World) (many most : Int) (F n : Nat) (ix : Value) (wr : World) : Prop := ∃ (k : Nat) (M : Nat → Prop) (T : List PkT), ix = .int .i64 k ∧ k ≤ n ∧ KS W W.heap.size wr M F many most T k
theorem built90c (ad : Option Addr) (n c : Nat) (bs : List UInt8) : Try.prog.built 90 [(6, .slice ad n c)] = some (partA (pt0 0 false bs) (.slice ad n c)) := by kernel_rfl

set_option maxRecDepth 100000 in
set_option maxHeartbeats 8000000 in
theorem law_fbound (W : World) (many most : Int) (a : Option Addr) (c : Nat) (L : List (PartD × Value)) (hl : L.length ≤ c) (hc : c ≤ 9223372036854775807) (hL : PsAt W a L) (hok : PsArg W L) (hm1 : -9223372036854775808 ≤ many) (hm2 : many ≤ 9223372036854775807) (hmost : most ≤ 9223372036854775807) :
    Calls Try.prog 21 #[.int .i64 many, .int .i64 most, .slice a L.length c] W fun e W' => e = .returned (.bool true) ∧ Below W.heap.size W W' := by
  have HL := Lib.hid hL
  have HK := Lib.hid hok
  have HGR := Lib.hid (fun w' (h : Below W.heap.size W w') => great_any w' a c L hl hc (HL.out.below h) (fun x hx => ⟨(HK.out x hx).1.1, (HK.out x hx).2.1.below h⟩))
  obtain ⟨n, hn⟩ : ∃ n, n = L.length := ⟨_, rfl⟩
  rw [← hn] at hl HGR ⊢
  have HN := Lib.hid hn
  clear hL hok hn
  go_enter Try.func21, Try.ntmps21
  go_wp2_with fail
  refine (known17 _).mono ?_
  rintro e w1 ⟨rfl, hb1⟩
  have HB1 := Lib.hid hb1
  clear hb1
  go_wp2_with fail
  refine (HGR.out w1 HB1.out).mono ?_
  rintro e w1' ⟨rfl, rfl⟩
  obtain ⟨g, hg⟩ : ∃ g, g = greatB L := ⟨_, rfl⟩
  rw [← hg]
  rcases g with _ | _
  · have HS := Lib.hid (greatB_no hg.symm)
    clear hg HGR
    go_wp2_with fail
    refine (new_any w1 many most).mono ?_
    rintro e w2 ⟨rfl, rfl⟩
    have K2 : Hid (Loop21 W many most w1.heap.size n (.int .i64 0) (w1.alloc (.cells #[.int .i64 many, .int .i64 most, .slice none 0 0] 115))) := Lib.hid ⟨0, _, _, rfl, Nat.zero_le _, ks_new W w1 W.heap.size many most 0 HB1.out HB1.out.size⟩
    have HF : Hid (W.heap.size ≤ w1.heap.size) := Lib.hid HB1.out.size
    generalize (w1.alloc (.cells #[.int .i64 many, .int .i64 most, .slice none 0 0] 115)) = w2 at K2 ⊢
    generalize w1.heap.size = F at K2 HF ⊢
    clear HB1
    go_wp2_with fail
    go_loopw [32] (fun ix wr => Hid (Loop21 W many most F n ix wr)) (fun ix _ => n - (intOf ix).toNat)
    case atStart => exact K2
    case round =>
      obtain ⟨k, M, T, rfl, hk, hKS⟩ := hrel.out
      have HKS := Lib.hid hKS
      clear hKS
      by_cases hlt : k < n
      · obtain ⟨x, hx⟩ : ∃ x, L[k]? = some x := ⟨L[k]'(by rw [← HN.out]; exact hlt), by rw [List.getElem?_eq_getElem]⟩
        have hxm := List.mem_of_getElem? hx
        obtain ⟨b, o, rfl, hps⟩ : ∃ b o, a = some ⟨b, o, none⟩ ∧ ∀ i y, L[i]? = some y → PtAt W b (o + i * 39) y.1 y.2 := by
          rcases HL.out with h | h
          · rw [h] at hx; simp at hx
          · exact h
        have HX := Lib.hid (HK.out x hxm)
        have hok : x.1.nm.ok := HX.out.1.1
        have hp := (hps k x hx).below HKS.out.bel
        have g1 := hp.has hok
        have g2 := hp.rd hok
        have HXL : Hid (x.1.bs.length ≤ 200) := Lib.hid (HS.out.2 x hxm)
        obtain ⟨aq, lq, cq, hqv, hlq, hlq2, hcq⟩ : ∃ aq lq cq, x.2 = .slice aq lq cq ∧ lq = x.1.bs.length ∧ lq ≤ cq ∧ cq ≤ maxLen := by
          obtain ⟨aq, cq, e, h1, h2, _⟩ := HX.out.2.1
          exact ⟨aq, x.1.bs.length, cq, e, rfl, h1, h2⟩
        have hone : x.2.oneCell' = true := by rw [hqv]; rfl
        have HQV := Lib.hid hqv
        have HLQ := Lib.hid hlq
        have HK60 : Hid (n ≤ 60) := Lib.hid (by rw [HN.out]; exact HS.out.1)
        clear hp hps hx hxm hqv hlq hcq
        go_upto_region 8 with fail
        obtain ⟨wo, rfl⟩ : ∃ wo : World, wo = wr := ⟨_, rfl⟩
        go_cut [9] (fun s9 wx => ∃ g, s9 = .pointer (some ⟨g, 0, none⟩) ∧ Hid (Boxed wo x g wx))
        case first =>
          go_wp2_with fail
          go_meet
          case rel => exact ⟨_, rfl, boxed_new wo x hok rfl⟩
        case rest =>
          obtain ⟨gb, rfl, HBX⟩ := hcut
          have HK3 := Lib.hid (HKS.out.below HBX.out.2.2.2.2)
          clear g1 g2
          go_wp2_with fail
          refine (ks_live HK3.out (by have := HK60.out; omega)).mono ?_
          rintro e w4 ⟨rfl, hb4⟩
          have HK4 := Lib.hid (HK3.out.below hb4)
          have HP4 := Lib.hid (HBX.out.1.below hb4)
          have f1 := HP4.out.has hok
          have f2 := HP4.out.rd hok
          obtain ⟨t0, ht0⟩ : ∃ t, t = T.length := ⟨_, rfl⟩
          obtain ⟨b0, hb0⟩ : ∃ t, t = bytesT T := ⟨_, rfl⟩
          rw [← ht0, ← hb0]
          have HT0 := Lib.hid ht0
          have HB0 := Lib.hid hb0
          clear ht0 hb0 hb4
          go_wp2_with fail
          obtain ⟨T', bs, is, d, hR⟩ : ∃ T' bs is d, takeS many most T x.1 = ⟨T', bs, is, d⟩ := ⟨_, _, _, _, rfl⟩
          refine (ks_take HK4.out hR (by have := HK60.out; omega) HX.out.1 (HK4.out.bytes HX.out.2.1 (Nat.le_refl _)) (HK4.out.far HX.out.2.1 (Nat.le_refl _)) hmost (by have := HXL.out; omega)).mono ?_
          rintro e w5 ⟨u, M5, rfl, ho5, hk5, _, hon5, _⟩
          obtain ⟨au, cu, rfl, hu1, hu2⟩ := ownsRow_shape ho5
          have HR := Lib.hid hR
          have HK5 := Lib.hid hk5
          have HP5 : Hid (PtAt w5 gb 0 x.1 x.2) := Lib.hid (fun j z hz => hon5.cell (HP4.out j z hz) (fun hm => by
            have h1 := HKS.out.tb.sub gb hm
            have h2 := HBX.out.2.2.1
            omega))
          clear hR ho5 hk5 hon5 f1 f2
          go_wp2_with fail
          refine (ks_live HK5.out (by have := HK60.out; omega)).mono ?_
          rintro e w6 ⟨rfl, hb6⟩
          have HK6 := Lib.hid (HK5.out.below hb6)
          have HP6 := Lib.hid (HP5.out.below hb6)
          obtain ⟨t1, ht1⟩ : ∃ t, t = T'.length := ⟨_, rfl⟩
          obtain ⟨b1, hb1⟩ : ∃ t, t = bytesT T' := ⟨_, rfl⟩
          rw [← ht1, ← hb1]
          have HT1 := Lib.hid ht1
          have HB1 := Lib.hid hb1
          clear ht1 hb1 hb6
          go_upto_region 12 with fail
          have hT5 := HK5.out.tb.ok
          have HA : Hid ((t1 : Int) ≤ (b1 : Int) ∧ (t1 : Int) ≤ max many 0 ∧ t1 ≤ t0 + 1 ∧ (0 < t1 → (b1 : Int) / (t1 : Int) ≤ most)) := Lib.hid ⟨by rw [HT1.out, HB1.out]; have := hT5.bytes.1; omega, by rw [HT1.out]; exact hT5.len, by
            rw [HT1.out, HT0.out]
            have := takeS_len many most T x.1
            rw [HR.out] at this; exact this, fun h0 => by rw [HT1.out, HB1.out]; exact hT5.quo (by rw [← HT1.out]; exact h0)⟩
          have HKD : Hid ((is = true ∧ d = 0) ∨ (is = false ∧ bs = [] ∧ (d = 7 ∨ d = 8))) := Lib.hid (by
            have := takeS_kind many most T x.1
            rw [HR.out] at this; exact this)
          clear hT5
          go_cut [97] (fun s97 wx => s97 = .bool false ∧ wx = w6)
          case first =>
            obtain ⟨i1, i2, i3, i4⟩ := HA.out
            have ht60 : t0 ≤ 60 := by
              rw [HT0.out]; have := HKS.out.tb.sz.1; have := HK60.out; omega
            have j1 : ¬ ((b1 : Int) < (t1 : Int)) := by omega
            have j2 : ¬ (max many 0 < (t1 : Int)) := by omega
            have j3 : ¬ ((t0 : Int) + 1 < (t1 : Int)) := by omega
            by_cases h0 : t1 = 0
            · have HZ := Lib.hid h0
              subst h0
              rcases HKD.out with ⟨rfl, rfl⟩ | ⟨rfl, rfl, rfl | rfl⟩
              all_goals
                clear i1 i2 i3 i4
                go_wp2_with fail
                go_meet
              all_goals exact ⟨by first | (congr 1; done) | (congr 1; simp <;> omega), rfl⟩
            · obtain ⟨q, hq⟩ : ∃ q, q = (b1 : Int) / (t1 : Int) := ⟨_, rfl⟩
              have i5 : q ≤ most := by rw [hq]; exact i4 (by omega)
              have hb1s : (b1 : Int) ≤ 1099511627776 * 61 := by
                rw [HB1.out]
                have h1 := bytesT_le (T := T') (fun k hk => ⟨Nat.le_trans (HK5.out.tb.sz.2 k hk).1 (by have := HK60.out; omega), (HK5.out.tb.sz.2 k hk).2⟩)
                have h2 := HK5.out.tb.sz.1
                have h3 := HK60.out
                have h4 : T'.length ≤ 61 := by omega
                have h5 := Nat.mul_le_mul_left 1099511627776 h4
                omega
              have hq0 : 0 ≤ q ∧ q ≤ (b1 : Int) := by
                rw [hq]
                exact ⟨Int.ediv_nonneg (by omega) (by omega), Int.ediv_le_self _ (by omega)⟩
              have hwr : IntKind.i64.wrap ((b1 : Int) / (t1 : Int)) = q := by rw [← hq, IntKind.wrap_i64]; omega
              have hne : ¬ (t1 = 0) := h0
              have i6 : (0 : Int) < (t1 : Int) := by omega
              have i9 : ¬ (most < q) := by omega
              clear hq hq0 hb1s i5 h0 i4 i1 i2 i3
              rcases HKD.out with ⟨rfl, rfl⟩ | ⟨rfl, rfl, rfl | rfl⟩
              all_goals
                go_wp2_with fail
                go_meet
              all_goals exact ⟨by first | (congr 1; done) | (congr 1; simp <;> omega), rfl⟩
          case rest =>
            obtain ⟨rfl, rfl⟩ := hcut
            obtain ⟨p1, p2, p3⟩ := HP6.out.cells hok
            simp only [Nat.zero_add] at p1 p2 p3
            rw [HQV.out] at p3
            obtain ⟨P, hP⟩ : ∃ P, P = x.1.pos := ⟨_, rfl⟩
            rw [← hP] at p1
            have HPP := Lib.hid hP
            have HNX : Hid (Loop21 W many most F n (.int .i64 (k + 1 : Nat)) wc) := Lib.hid ⟨k + 1, M5, T', rfl, hlt, HK6.out⟩
            have HBAD : Hid (mayB most x.1 = false → is = false ∧ d = 8 ∧ t1 = t0 ∧ b1 = b0) := Lib.hid (fun hb => by
              have := takeS_bad (many := many) (T := T) hb
              rw [HR.out] at this
              injection this with e1 e2 e3 e4
              exact ⟨e3, e4, by rw [HT1.out, HT0.out, e1], by rw [HB1.out, HB0.out, e1]⟩)
            clear p2 hP
            by_cases h1 : lq = 0
            · obtain ⟨rfl, rfl, rfl, rfl⟩ := HBAD.out (by unfold mayB; rw [← HLQ.out, h1]; rfl)
              subst h1
              go_wp2_with fail
              go_roundw
              case rel => exact HNX.out
              case measure => simp [intOf]; omega
            · by_cases h2 : P < 0
              · obtain ⟨rfl, rfl, rfl, rfl⟩ := HBAD.out (by
                  unfold mayB
                  rw [← HPP.out]
                  have : decide (0 ≤ P) = false := by simp; exact h2
                  simp [this])
                go_wp2_with fail
                go_roundw
                case rel => exact HNX.out
                case measure => simp [intOf]; omega
              · have t3 : P.tmod 8 = P % 8 := Int.tmod_eq_emod_of_nonneg (by omega)
                by_cases h3 : P % 8 = 0
                · have h3' : (P.tmod 8 != 0) = false := by rw [t3]; simp; exact h3
                  have h3'' : (P % 8 != 0) = false := by simp; exact h3
                  have h2' : (0 : Int) ≤ P := by omega
                  clear t3 h3
                  go_wp2_with fail
                  go_roundw
                  case rel => exact HNX.out
                  case measure => simp [intOf]; omega
                · obtain ⟨rfl, rfl, rfl, rfl⟩ := HBAD.out (by
                    unfold mayB
                    rw [← HPP.out]
                    simp [h3])
                  have h3' : (P.tmod 8 != 0) = true := by rw [t3]; simp; exact h3
                  have h3'' : (P % 8 != 0) = true := by simp; exact h3
                  have h2' : (0 : Int) ≤ P := by omega
                  clear t3 h3
                  go_wp2_with fail
                  go_roundw
                  case rel => exact HNX.out
                  case measure => simp [intOf]; omega
      · obtain rfl : k = n := by omega
        go_wp2_with ((with_reducible refine wpList_build 90 (partA (pt0 0 false [1]) (.slice _ _ _)) ?_ ?_); exact built90c _ _ _ _)
        refine (take_nil _ (pt0 0 false [1]) _).mono ?_
        rintro e w7 ⟨rfl, hb7⟩
        have HB7 := Lib.hid (HKS.out.bel.trans (((below_alloc wr _).then hb7).mono HKS.out.sz))
        clear hb7
        go_wp2_with fail
        refine (live_nil _).mono ?_
        rintro e w8 ⟨rfl, rfl⟩
        go_wp2_with fail
        go_ret
        exact ⟨rfl, HB7.out⟩
  · clear hg
    go_wp2_with fail
    go_ret
    exact ⟨rfl, HB1.out⟩
end Go.Proofs.Ytnckmaieghlpmaa
