/-
  The law FragPlays: a table and the document's, handed the same parts, tell and keep the same.
-/
import Derived.Test.YtnckmaieghlpmaaRtk
import Derived.Test.YtnckmaieghlpmaaLawFown
namespace Go.Proofs.Ytnckmaieghlpmaa
open Go.RowKit
set_option linter.unusedVariables false
set_option linter.unusedSimpArgs false
attribute [local go_sem ↓] fold_ld54 fold_st54 fold_ld90 fold_st90 fold_ld121 fold_st121 fold_ld124 fold_st124 Go.wp_at_zero Go.wp_at_succ
attribute [local go_sem] ld54_at st54_at ld90_at st90_pt ld121_at st121_nm ld124_at free_new1 bx36 bx37 bx38 bxhas bxrd

theorem takeS_drop (many most : Int) (T : List PkT) (p : PartD) : (takeS many most T p).drop ≤ 8 := by
  have hs : ∀ (T : List PkT) (i : Nat) (n : NameD) (ps : List PartD), (stepIn T i n ps p).drop ≤ 8 := fun T i n ps => by
    unfold stepIn
    split
    · exact Nat.le_of_ble_eq_true rfl
    · split
      · exact Nat.le_refl _
      · split
        · exact Nat.zero_le _
        · exact Nat.le_of_ble_eq_true rfl
  unfold takeS
  split
  · exact Nat.le_refl _
  · split
    · exact Nat.le_refl _
    · split
      · exact hs _ _ _ _
      · exact hs _ _ _ _
/-- both tables alike -/
def PairR (W : World) (F1 F2 : Nat) (many most : Int) (n : Nat) (ix : Value) (wr : World) : Prop :=
  ∃ (k : Nat) (M1 M2 : Nat → Prop) (T : List PkT), ix = .int .i64 k ∧ k ≤ n ∧ KS W W.heap.size wr M1 F1 many most T k ∧ KR W W.heap.size wr M2 F2 many most T k ∧ ∀ i, M1 i → M2 i → False

set_option maxRecDepth 100000 in
set_option maxHeartbeats 8000000 in
theorem law_fpl (W : World) (many most : Int) (a : Option Addr) (c : Nat) (L : List (PartD × Value)) (hl : L.length ≤ c) (hc : c ≤ 9223372036854775807) (hL : PsAt W a L) (hok : PsArg W L) (hmost : most ≤ 9223372036854775807) :
    Calls Try.prog 17 #[.int .i64 many, .int .i64 most, .slice a L.length c] W fun e W' => e = .returned (.bool true) ∧ Below W.heap.size W W' := by
  have HL := Lib.hid hL
  have HK := Lib.hid hok
  have HGR := Lib.hid (fun w' (h : Below W.heap.size W w') => great_any w' a c L hl hc (HL.out.below h) (fun x hx => ⟨(HK.out x hx).1.1, (HK.out x hx).2.1.below h⟩))
  obtain ⟨n, hn⟩ : ∃ n, n = L.length := ⟨_, rfl⟩
  rw [← hn] at hl HGR ⊢
  have HN := Lib.hid hn
  clear hL hok hn
  go_enter Try.func17, Try.ntmps17
  go_wp2_with fail
  refine (known17 _).mono ?_
  rintro e w1 ⟨rfl, hb1⟩
  have HB1 := Lib.hid hb1
  clear hb1
  go_wp2_with fail
  refine (HGR.out w1 HB1.out).mono ?_
  rintro e w1' ⟨rfl, rfl⟩
  obtain ⟨g, hg⟩ : ∃ g, g = greatB L := ⟨_, rfl⟩
  rw [← hg]
  rcases g with _ | _
  · have HS := Lib.hid (greatB_no hg.symm)
    clear hg HGR
    go_wp2_with fail
    refine (new_any w1 many most).mono ?_
    rintro e w2 ⟨rfl, rfl⟩
    have K1 := Lib.hid (ks_new W w1 W.heap.size many most 0 HB1.out HB1.out.size)
    have K1' : Hid (Below W.heap.size W (w1.alloc (.cells #[.int .i64 many, .int .i64 most, .slice none 0 0] 115))) := Lib.hid K1.out.bel
    go_wp2_with fail
    refine (rnew_any _ many most).mono ?_
    rintro e w2 ⟨rfl, rfl⟩
    have K2 := Lib.hid (kr_new W (w1.alloc (.cells #[.int .i64 many, .int .i64 most, .slice none 0 0] 115)) W.heap.size many most 0 K1'.out K1.out.sz)
    have KP : Hid (PairR W w1.heap.size (w1.heap.size + 1) many most n (.int .i64 0) ((w1.alloc (.cells #[.int .i64 many, .int .i64 most, .slice none 0 0] 115)).alloc (.cells #[.int .i64 many, .int .i64 most, .slice none 0 0] 118))) := Lib.hid ⟨0, _, _, _, rfl, Nat.zero_le _, K1.out.alloc _, by have := K2.out; rw [size_alloc] at this; exact this, fun i h1 h2 => by
      have h1 : i = w1.heap.size := h1
      have h2 : i = w1.heap.size + 1 := h2
      omega⟩
    rw [size_alloc]
    generalize (w1.alloc (.cells #[.int .i64 many, .int .i64 most, .slice none 0 0] 115)).alloc (.cells #[.int .i64 many, .int .i64 most, .slice none 0 0] 118) = w2 at KP ⊢
    generalize w1.heap.size + 1 = F2 at KP ⊢
    generalize w1.heap.size = F1 at KP ⊢
    clear HB1 K1 K1' K2
    go_wp2_with fail
    go_loopw [33] (fun ix wr => Hid (PairR W F1 F2 many most n ix wr)) (fun ix _ => n - (intOf ix).toNat)
    case atStart => exact KP
    case round =>
      obtain ⟨k, M1, M2, T, rfl, hk, hK1, hK2, hdis⟩ := hrel.out
      have HK1 := Lib.hid hK1
      have HK2 := Lib.hid hK2
      have HD := Lib.hid hdis
      clear hK1 hK2 hdis
      by_cases hlt : k < n
      · obtain ⟨x, hx⟩ : ∃ x, L[k]? = some x := ⟨L[k]'(by rw [← HN.out]; exact hlt), by rw [List.getElem?_eq_getElem]⟩
        have hxm := List.mem_of_getElem? hx
        obtain ⟨b, o, rfl, hps⟩ : ∃ b o, a = some ⟨b, o, none⟩ ∧ ∀ i y, L[i]? = some y → PtAt W b (o + i * 39) y.1 y.2 := by
          rcases HL.out with h | h
          · rw [h] at hx; simp at hx
          · exact h
        have HX := Lib.hid (HK.out x hxm)
        have hok : x.1.nm.ok := HX.out.1.1
        have hp := (hps k x hx).below HK1.out.bel
        have g1 := hp.has hok
        have g2 := hp.rd hok
        have HXL : Hid (x.1.bs.length ≤ 200) := Lib.hid (HS.out.2 x hxm)
        have hone : x.2.oneCell' = true := by obtain ⟨aq, cq, e, _⟩ := HX.out.2.1; rw [e]; rfl
        have HK60 : Hid (n ≤ 60) := Lib.hid (by rw [HN.out]; exact HS.out.1)
        clear hp hps hx hxm
        go_upto_region 8 with fail
        obtain ⟨wo, rfl⟩ : ∃ wo : World, wo = wr := ⟨_, rfl⟩
        go_cut [10] (fun s10 wx => ∃ g, s10 = .pointer (some ⟨g, 0, none⟩) ∧ Hid (Boxed wo x g wx))
        case first =>
          go_wp2_with fail
          go_meet
          case rel => exact ⟨_, rfl, boxed_new wo x hok rfl⟩
        case rest =>
          obtain ⟨gp, rfl, HBX⟩ := hcut
          obtain ⟨wa, rfl⟩ : ∃ wa : World, wa = wc := ⟨_, rfl⟩
          clear g1 g2
          have g1 := HBX.out.1.has hok
          have g2 := HBX.out.1.rd hok
          have HK1a := Lib.hid (HK1.out.below HBX.out.2.2.2.2)
          have HK2a := Lib.hid (HK2.out.below HBX.out.2.2.2.2)
          have HLT1 : Hid (∀ i, M1 i → i < wo.heap.size) := Lib.hid HK1.out.tb.sub
          have HLT2 : Hid (∀ i, M2 i → i < wo.heap.size) := Lib.hid HK2.out.tab.sub
          have HGP : Hid (gp = wo.heap.size ∧ gp < wa.heap.size) := Lib.hid ⟨HBX.out.2.2.1, HBX.out.2.2.2.1⟩
          obtain ⟨T', bs, is, d, hR⟩ : ∃ T' bs is d, takeS many most T x.1 = ⟨T', bs, is, d⟩ := ⟨_, _, _, _, rfl⟩
          have hd8 : d ≤ 8 := by have := takeS_drop many most T x.1; rw [hR] at this; exact this
          have HR := Lib.hid hR
          clear hR
          go_wp2_with fail
          refine (ks_take HK1a.out HR.out (by have := HK60.out; omega) HX.out.1 (HK1a.out.bytes HX.out.2.1 (Nat.le_refl _)) (HK1a.out.far HX.out.2.1 (Nat.le_refl _)) hmost (by have := HXL.out; omega)).mono ?_
          rintro e w3 ⟨u1, M1', rfl, ho1, hk1, hn1, hon1, hm1⟩
          obtain ⟨au, cu, rfl, _, _⟩ := ownsRow_shape ho1
          have HO1 := Lib.hid ho1
          have HK1b := Lib.hid hk1
          have HM1 := Lib.hid hm1
          have HK2b := Lib.hid (HK2a.out.only hon1 (fun i p q => HD.out i q p) HK1a.out.old)
          have HPB : Hid (PtAt w3 gp 0 x.1 x.2) := Lib.hid (HBX.out.1.only hon1 (fun h => by have := HLT1.out gp h; have := HGP.out.1; omega))
          clear g1 g2 ho1 hk1 hn1 hon1 hm1
          have g1 := HPB.out.has hok
          have g2 := HPB.out.rd hok
          go_wp2_with fail
          refine (kr_take HK2b.out HR.out (by have := HK60.out; omega) HX.out.1 (HK2b.out.bytes HX.out.2.1 (Nat.le_refl _)) (HK2b.out.far HX.out.2.1 (Nat.le_refl _)) hmost (by have := HXL.out; omega)).mono ?_
          rintro e w4 ⟨u2, M2', rfl, ho2, hk2, hn2, hon2, hm2⟩
          obtain ⟨au2, cu2, rfl, _, _⟩ := ownsRow_shape ho2
          have HO2 := Lib.hid ho2
          have HK2c := Lib.hid hk2
          have HK1c := Lib.hid (HK1b.out.only hon2 (fun i p q => (HM1.out i p).elim (fun h => HD.out i h q) (fun h => by have := HLT2.out i q; have := HGP.out; omega)) HK2b.out.old)
          have HO1c : Hid (Own w4 0 (.slice au bs.length cu) bs) := Lib.hid (ownsRow_keep (ownsRow_base HO1.out (fun i _ => Nat.zero_le i)) (fun i hi => hon2.block i (World.ownsRow.lt HO1.out i hi).2 (fun hm => by have := HLT2.out i hm; have := (World.ownsRow.lt HO1.out i hi).1; have := HGP.out; omega)))
          have HD4 : Hid (∀ i, M1' i → M2' i → False) := Lib.hid (fun i p q => by
            have h1 := HK1b.out.tb.sub i p
            rcases hm2 i q with h2 | h2
            · rcases HM1.out i p with h3 | h3
              · exact HD.out i h3 h2
              · have := HLT2.out i h2; have := HGP.out; omega
            · omega)
          clear g1 g2 ho2 hk2 hn2 hon2 hm2
          go_wp2_with fail
          refine (ks_live HK1c.out (by have := HK60.out; omega)).mono ?_
          rintro e w5 ⟨rfl, hb5⟩
          have HK2d := Lib.hid (HK2c.out.below hb5)
          have HB5 := Lib.hid hb5
          clear hb5
          go_wp2_with fail
          refine (kr_live HK2d.out (by have := HK60.out; omega)).mono ?_
          rintro e w6 ⟨rfl, hb6⟩
          have HB6 := Lib.hid (HB5.out.then hb6)
          clear hb6
          have HK1e := Lib.hid (HK1c.out.below HB6.out)
          have HK2e := Lib.hid (HK2c.out.below HB6.out)
          have e1 := conv_bs (Own.below HO1c.out HB6.out).bs
          have e2 := conv_bs (Own.below HO2.out HB6.out).bs
          have hw : IntKind.i64.wrap (d : Int) = (d : Int) := by rw [IntKind.wrap_i64]; omega
          obtain ⟨t1, ht1⟩ : ∃ t, t = bytesT T' := ⟨_, rfl⟩
          obtain ⟨t2, ht2⟩ : ∃ t, t = T'.length := ⟨_, rfl⟩
          rw [← ht1, ← ht2]
          clear ht1 ht2
          rcases is with _ | _
          · go_wp2_with fail
            go_roundw
            case rel => exact Lib.hid ⟨k + 1, M1', M2', T', by go_num, by omega, HK1e.out, HK2e.out, HD4.out⟩
            case measure => simp [intOf]; omega
          · go_wp2_with fail
            go_roundw
            case rel => exact Lib.hid ⟨k + 1, M1', M2', T', by go_num, by omega, HK1e.out, HK2e.out, HD4.out⟩
            case measure => simp [intOf]; omega
      · obtain rfl : k = n := by omega
        go_wp2_with fail
        go_ret
        exact ⟨rfl, HK1.out.bel⟩
  · clear hg
    go_wp2_with fail
    go_ret
    exact ⟨rfl, HB1.out⟩
theorem law_fpl' (W : World) (x0 x1 : Int) (v2 : Value) (F0 : (Lit.int .i64 x0).wf = true) (F1 : (Lit.int .i64 x1).wf = true) (F2 : ∃ a L c, v2 = .slice a L.length c ∧ L.length ≤ c ∧ c ≤ 9223372036854775807 ∧ PsAt W a L ∧ PsArg W L) :
    Calls Try.prog 17 #[.int .i64 x0, .int .i64 x1, v2] W fun e W' => e = .returned (.bool true) ∧ Below W.heap.size W W' := by
  obtain ⟨a, L, c, rfl, hl, hc, hL, hA⟩ := F2
  have h1 : -9223372036854775808 ≤ x1 ∧ x1 ≤ 9223372036854775807 := by simpa [Lit.wf, IntKind.min, IntKind.max, IntKind.signed, IntKind.bits] using F1
  exact law_fpl W x0 x1 a c L hl hc hL hA h1.2
end Go.Proofs.Ytnckmaieghlpmaa
