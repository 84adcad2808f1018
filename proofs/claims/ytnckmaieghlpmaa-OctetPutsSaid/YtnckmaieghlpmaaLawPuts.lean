/-
  The walk of horologelaw07.OctetPuts.
-/
import Derived.Test.YtnckmaieghlpmaaKnown7
import Derived.Test.YtnckmaieghlpmaaStr
import Derived.Test.YtnckmaieghlpmaaRput
import Derived.StillTailTactics
namespace Go.Proofs.Ytnckmaieghlpmaa
open Go.RowKit
set_option linter.unusedVariables false

/-- a row of two cells, written whole -/
theorem two_set {w : World} {g : Nat} {x y u v : Value} {t : TypeId} (h : w.heap[g]? = some (.cells #[x, y] t (0, 0))) :
    ((w.setCell ⟨g, 0, none⟩ u).setCell ⟨g, 1, none⟩ v).heap[g]? = some (.cells #[u, v] t (0, 0)) ∧ (∀ k, k ≠ g → ((w.setCell ⟨g, 0, none⟩ u).setCell ⟨g, 1, none⟩ v).heap[k]? = w.heap[k]?) ∧
    ((w.setCell ⟨g, 0, none⟩ u).setCell ⟨g, 1, none⟩ v).heap.size = w.heap.size := by
  refine ⟨heap_setCell_same _ g 1 _ t v (heap_setCell_same _ g 0 _ t u h), fun k hk => ?_, by simp [World.setCell]⟩
  rw [heap_setCell_other _ _ _ _ (by simpa using hk), heap_setCell_other _ _ _ _ (by simpa using hk)]
/-- a slice's bytes lie outside block g -/
def BsBut (g : Nat) (w : World) (v : Value) (bs : List UInt8) : Prop := Bs w v bs ∧ (bs ≠ [] → ∀ a n c, v = .slice (some a) n c → a.block ≠ g)
theorem BsBut.block {w w' : World} {v : Value} {bs : List UInt8} {g : Nat} (h : BsBut g w v bs) (hk : ∀ k, k ≠ g → w'.heap[k]? = w.heap[k]?) : BsBut g w' v bs := by
  refine ⟨?_, h.2⟩
  obtain ⟨⟨a, c, rfl, h1, h2, hat⟩, hg⟩ := h
  refine ⟨a, c, rfl, h1, h2, ?_⟩
  by_cases hn : bs = []
  · exact .inl hn
  · rcases hat with h | ⟨b, o, rfl, h⟩
    · exact .inl h
    · exact .inr ⟨b, o, rfl, fun i x hx => by
        rw [World.cell?_of_block (w := w) (hk b (hg hn _ _ _ rfl))]; exact h i x hx⟩
theorem BsBut.below {w w' : World} {v : Value} {bs : List UInt8} {g : Nat} (h : BsBut g w v bs) (hb : Below w.heap.size w w') : BsBut g w' v bs := ⟨h.1.below hb, h.2⟩
theorem bsbut_old {w : World} {v : Value} {bs : List UInt8} {g : Nat} (h : Bs w v bs) (hg : w.heap.size ≤ g) : BsBut g w v bs := by
  refine ⟨h, fun hn a n c e => ?_⟩
  obtain ⟨a', c', rfl, _, _, hat⟩ := h
  cases e
  rcases hat with h | ⟨b, o, e, h⟩
  · exact (hn h).elim
  · cases e
    obtain ⟨x, hx⟩ : ∃ x, bs[0]? = some x := by cases bs with
      | nil => exact (hn rfl).elim
      | cons x r => exact ⟨x, rfl⟩
    have := World.block_lt_of_cell? w _ (h 0 x hx)
    show b ≠ g
    simp only at this
    omega
theorem bsbut_own {w : World} {v : Value} {bs : List UInt8} {base g : Nat} (h : Own w base v bs) (hg : g < base) : BsBut g w v bs := by
  refine ⟨h.bs, fun _ a n c e => ?_⟩
  subst e
  rcases h.shape with ⟨e, _⟩ | ⟨g', cap, e, hge', _⟩
  · cases e
  · cases e; show g' ≠ g; omega

/-- where the law stands in its second loop -/
def PutsSt (w : World) (g : Nat) (lit : Bool) (wr : World) (v : Value) (xs : List UInt8) : Prop :=
  wr.heap[g]? = some (.cells #[v, .bool lit] 30 (0, 0)) ∧ BsBut g wr v xs ∧ Below w.heap.size w wr ∧ w.heap.size ≤ g

set_option maxRecDepth 100000 in
set_option maxHeartbeats 2000000 in
theorem law_puts (w : World) (v : Value) (bs : List UInt8) (lit : Bool) (hb : Bs w v bs) (hl : bs.length ≤ 300)
    (a2 a3 : Option Addr) (c2 c3 : Nat) (us ms : List Int) (h2 : NumsAt w .u64 a2 us) (h3 : NumsAt w .i64 a3 ms) (hu : us.length ≤ 20) (hm : ms.length ≤ 9223372036854775807)
    (hwu : ∀ z ∈ us, 0 ≤ z ∧ z < 18446744073709551616) (n : Int) (hn : -9223372036854775808 ≤ n ∧ n ≤ 9223372036854775807) :
    Calls Try.prog 5 #[v, .bool lit, .slice a2 us.length c2, .slice a3 ms.length c3, .int .i64 n] w fun e w' => e = .returned (.bool true) ∧ Below w.heap.size w w' := by
  have HB := Lib.hid hb
  have H2 := Lib.hid h2
  have H3 := Lib.hid h3
  have HWU := Lib.hid hwu
  obtain ⟨a, c, rfl, hl1, hl2, hat⟩ := hb
  clear hat h2 h3 hwu
  unfold maxLen at hl2
  go_enter Try.func5, Try.ntmps5
  go_wp2_with fail
  refine (known7 _).mono ?_; rintro e w1 ⟨rfl, hb1⟩
  have HB1 : Hid (Bs w1 _ bs) := HB.out.below hb1
  have HE1 := Lib.hid hb1
  clear hb1 HB
  have hl3 : ¬ (300 : Int) < (bs.length : Int) := by omega
  have hu3 : ¬ (20 : Int) < (us.length : Int) := by omega
  go_wp2_with fail
  obtain ⟨P, hP⟩ : ∃ P, P = pad n := ⟨_, rfl⟩
  have hP3 : P ≤ 3 := by rw [hP]; unfold pad; split <;> omega
  have hPn : n ≤ 0 → P = 0 := by intro h; rw [hP]; unfold pad; split <;> omega
  have hP1 : 0 < n → (P : Int) ≤ (4 - n % 4) % 4 ∧ (4 - n % 4) % 4 ≤ (P : Int) := by intro h; rw [hP]; unfold pad; rw [if_neg (by omega)]; omega
  have HP := Lib.hid hP
  have HPN := Lib.hid hPn
  have HP1 := Lib.hid hP1
  clear hP hPn hP1
  go_loop [11] (fun t => ∃ k : Nat, t = .int .i64 k ∧ k ≤ P) (fun t => P - (intOf t).toNat)
  case atStart => exact ⟨0, rfl, Nat.zero_le _⟩
  case round =>
    obtain ⟨k, rfl, hk⟩ := hrel
    by_cases hrun : 0 < n ∧ k < P
    · obtain ⟨hn0, hkP⟩ := hrun
      obtain ⟨q1, q2⟩ := HP1.out hn0
      have hpos : 0 < (n % 4 + (k : Int)) % 4 := by omega
      go_wp2_with fail
      go_round
      case rel => exact ⟨k + 1, by go_num, by omega⟩
      case measure => simp [intOf]; omega
    · have hkP : k = P := by
        by_cases hn0 : 0 < n
        · omega
        · have := HPN.out (by omega); omega
      subst hkP
      have hpos : 0 < n → ¬ 0 < (n % 4 + (k : Int)) % 4 := by
        intro hn0
        obtain ⟨q1, q2⟩ := HP1.out hn0
        omega
      have hk0 := conv_bs (HB1.out.alloc (Obj.cells #[Value.slice a bs.length c, Value.bool lit] 30))
      clear hrun
      by_cases hn0 : 0 < n
      all_goals
        first | (have hp2 := hpos hn0; clear hpos) | clear hpos
        go_wp2_with fail
        refine (pad_any _ n hn).mono ?_; rintro e w2 ⟨rfl, rfl⟩
        rw [← HP.out]
        go_wp2_with fail
        have HSt : Hid (PutsSt w w1.heap.size lit (w1.alloc (Obj.cells #[Value.slice a bs.length c, Value.bool lit] 30)) (.slice a bs.length c) bs) :=
          ⟨heap_alloc_new _ _, (bsbut_old HB1.out (Nat.le_refl _)).below (below_alloc _ _), HE1.out.trans ((below_alloc _ _).mono HE1.out.size), HE1.out.size⟩
        obtain ⟨g, hg⟩ : ∃ g, g = w1.heap.size := ⟨_, rfl⟩
        rw [← hg] at HSt ⊢
        clear hg hk0
        go_loopw [13, 52] (fun t i wr => ∃ (j : Nat) (v : Value) (xs : List UInt8), j ≤ us.length ∧ i = .int .i64 j ∧ t = .string (mkS xs) ∧ xs.length ≤ 300 + 8 * j ∧ Hid (PutsSt w g lit wr v xs)) (fun _ i _ => us.length - (intOf i).toNat)
        case atStart => exact ⟨0, _, bs, Nat.zero_le _, rfl, rfl, by omega, HSt⟩
        case round =>
          obtain ⟨j, v, xs, hj, rfl, rfl, hxl, HS⟩ := hrel
          clear HSt
          by_cases hlt : j < us.length
          · obtain ⟨b2, o2, rfl, hc2⟩ : ∃ b o, a2 = some ⟨b, o, none⟩ ∧ ∀ i z, us[i]? = some z → wr.cell? ⟨b, o + i, none⟩ = some (.int .u64 z) := by
              rcases H2.out.below HS.out.2.2.1 with h | h
              · simp [h] at hlt
              · exact h
            obtain ⟨z, hz⟩ : ∃ z, us[j]? = some z := ⟨us[j], by simp [hlt]⟩
            have hcz := hc2 j z hz
            obtain ⟨hz0, hz1⟩ := HWU.out z (List.mem_of_getElem? hz)
            obtain ⟨x, rfl⟩ := Int.eq_ofNat_of_zero_le hz0
            have hx1 : x < 18446744073709551616 := by omega
            clear hc2 hz hz0 hz1
            obtain ⟨b0, b1, f0, f1⟩ := two_cells HS.out.1
            by_cases hjm : j < ms.length
            · obtain ⟨b3, o3, rfl, hc3⟩ : ∃ b o, a3 = some ⟨b, o, none⟩ ∧ ∀ i z, ms[i]? = some z → wr.cell? ⟨b, o + i, none⟩ = some (.int .i64 z) := by
                rcases H3.out.below HS.out.2.2.1 with h | h
                · simp [h] at hjm
                · exact h
              obtain ⟨m, hmj⟩ : ∃ z, ms[j]? = some z := ⟨ms[j], by simp [hjm]⟩
              have hcm := hc3 j m hmj
              clear hc3 hmj
              have hgl := lt_of_block HS.out.1
              obtain ⟨av, cv, rfl, hv1, hv2, hvat⟩ := HS.out.2.1.1
              clear hvat
              unfold maxLen at hv2
              have hk1 : (convert 24 9 (.slice av xs.length cv)).run Try.prog wr.drew = .ok (.string (mkS xs)) wr.drew := conv_bs (w := wr.drew) HS.out.2.1.1
              have hk2 : ∀ O, (convert 24 9 (.slice av xs.length cv)).run Try.prog (wr.alloc O).drew = .ok (.string (mkS xs)) (wr.alloc O).drew := fun O => conv_bs (w := (wr.alloc O).drew) (HS.out.2.1.1.alloc O)
              go_wp2_with fail
              go_region
              have hcz' : ((wr.alloc (Obj.cells #[Value.slice av xs.length cv, Value.bool lit] 30)).drew).cell? _ = _ := below_cells (below_alloc wr _) _ _ hcz
              have hcm' : ((wr.alloc (Obj.cells #[Value.slice av xs.length cv, Value.bool lit] 30)).drew).cell? _ = _ := below_cells (below_alloc wr _) _ _ hcm
              have hG : ((wr.alloc (Obj.cells #[Value.slice av xs.length cv, Value.bool lit] 30)).drew).heap[g]? = some (.cells #[.slice av xs.length cv, .bool lit] 30 (0, 0)) := ((below_alloc wr _).block g hgl).trans HS.out.1
              have hW : ((wr.alloc (Obj.cells #[Value.slice av xs.length cv, Value.bool lit] 30)).drew).heap[wr.heap.size]? = some (.cells #[.slice av xs.length cv, .bool lit] 30 (0, 0)) := heap_alloc_new wr _
              have hB3 : BsBut g ((wr.alloc (Obj.cells #[Value.slice av xs.length cv, Value.bool lit] 30)).drew) (.slice av xs.length cv) xs := HS.out.2.1.below (below_alloc wr _).drew
              have hE3 : Below w.heap.size w ((wr.alloc (Obj.cells #[Value.slice av xs.length cv, Value.bool lit] 30)).drew) := (HS.out.2.2.1.trans ((below_alloc _ _).mono HS.out.2.2.1.size)).drew
              have hge := HS.out.2.2.2
              generalize (wr.alloc (Obj.cells #[Value.slice av xs.length cv, Value.bool lit] 30)).drew = w3 at *
              obtain ⟨d0, d1, e0, e1⟩ := two_cells hG
              have HG := Lib.hid hG
              have HW := Lib.hid hW
              have HB3 := Lib.hid hB3
              have HE3 := Lib.hid hE3
              clear hG hW hB3 hE3 b0 b1 f0 f1 hcz hcm hk1 hk2
              go_wp2_with fail
              go_still_tail 6, (by kernel_rfl)
              change wpList _ _ _ _ _ w3.drew
              replace hcz' : w3.drew.cell? _ = _ := hcz'
              replace hcm' : w3.drew.cell? _ = _ := hcm'
              replace d0 : w3.drew.cell? _ = _ := d0
              replace d1 : w3.drew.cell? _ = _ := d1
              replace HG : Hid (w3.drew.heap[g]? = _) := HG
              replace HW : Hid (w3.drew.heap[wr.heap.size]? = _) := HW
              replace HB3 : Hid (BsBut g w3.drew _ xs) := HB3
              replace HE3 : Hid (Below w.heap.size w w3.drew) := Below.drew HE3.out
              clear e0 e1
              generalize w3.drew = w4 at *
              have hb3g : b3 < w.heap.size := World.block_lt_of_cell? w ⟨b3, o3 + j, none⟩ (by
                rcases H3.out with h | ⟨b, o, e, h⟩
                · simp [h] at hjm
                · cases e
                  exact h j (ms[j]) (by simp [hjm]))
              have HBG := Lib.hid hb3g
              clear hb3g
              by_cases hm8 : 0 ≤ m ∧ m ≤ 8
              · obtain ⟨hm0, hm8⟩ := hm8
                obtain ⟨mm, rfl⟩ := Int.eq_ofNat_of_zero_le hm0
                have hm8' : mm ≤ 8 := by omega
                go_wp2_with fail
                refine (put_yes _ _ xs lit x mm HB3.out.1 (by omega) hx1 hm8').mono ?_
                rintro e w5 ⟨v5, rfl, hown5, hb5⟩
                obtain ⟨a5, c5, rfl, hs5, hs6⟩ := hown5.slice
                obtain ⟨zs, hzs⟩ : ∃ zs, zs = numB lit x mm := ⟨_, rfl⟩
                rw [← hzs] at hown5 hs5 ⊢
                have hzl : zs.length = mm := by rw [hzs, numB_length]
                obtain ⟨ys, hys⟩ : ∃ ys, ys = xs ++ zs := ⟨_, rfl⟩
                have hyl : ys.length ≤ 300 + 8 * (j + 1) := by rw [hys, List.length_append]; omega
                rw [← hys] at hown5 hs5 ⊢
                have HZ := Lib.hid hzs
                have HY := Lib.hid hys
                clear hzs hys hzl
                have hg4 := lt_of_block HG.out
                have hG5 := (hb5.block g hg4).trans HG.out
                have hW5 := (hb5.block _ (lt_of_block HW.out)).trans HW.out
                obtain ⟨q0, q1, p0, p1⟩ := two_cells hG5
                obtain ⟨t1, t2, t3⟩ := two_set (u := .slice a5 ys.length c5) (v := .bool lit) hG5
                have hcm6 := (World.cell?_of_block (a := ⟨b3, o3 + j, none⟩) (t2 b3 (by have := HBG.out; omega))).trans (below_cells hb5 _ _ hcm')
                have hW6 := (t2 wr.heap.size (by omega)).trans hW5
                have hB6 := (bsbut_own hown5 hg4).block t2
                have hE6 : Below w.heap.size w ((w5.setCell ⟨g, 0, none⟩ (.slice a5 ys.length c5)).setCell ⟨g, 1, none⟩ (.bool lit)) :=
                  ((HE3.out.trans (hb5.mono HE3.out.size)).setCell (by show w.heap.size ≤ g; omega) _).setCell (by show w.heap.size ≤ g; omega) _
                have hA6 := (HB3.out.below hb5).block t2
                have HG6 := Lib.hid t1
                have HW6 := Lib.hid hW6
                have HB6 := Lib.hid hB6
                have HE6 := Lib.hid hE6
                have HA6 := Lib.hid hA6
                clear t1 t2 t3 hW6 hB6 hE6 hG5 hW5 hb5 hown5 hcm' d0 d1 hA6 hcz'
                go_wp2_with fail
                refine (rput_any _ lit x mm hx1 hm8').mono ?_
                rintro e w7 ⟨v7, rfl, hown7, hb7⟩
                rw [← HZ.out] at hown7
                obtain ⟨a7, c7, rfl, hs7, hs8⟩ := hown7.slice
                have hk1 := conv_bs hown7.bs
                have hG7 := (hb7.block g (lt_of_block HG6.out)).trans HG6.out
                have hW7 := (hb7.block _ (lt_of_block HW6.out)).trans HW6.out
                obtain ⟨q0, q1, p0, p1⟩ := two_cells hG7
                obtain ⟨i0, i1, l0, l1⟩ := two_cells hW7
                have hk2 := conv_bs (HB6.out.below hb7).1
                have hk3 := conv_bs (HA6.out.below hb7).1
                have HE7 : Hid (Below w.heap.size w w7) := HE6.out.trans (hb7.mono HE6.out.size)
                have HB7 : Hid (BsBut g w7 (.slice a5 ys.length c5) ys) := HB6.out.below hb7
                have HG7 := Lib.hid hG7
                have hadd : mkS xs ++ mkS zs = mkS ys := by rw [HY.out, mkS_append]
                have hasz : (mkS xs).size + (mkS zs).size ≤ 9223372036854775807 := by
                  have : ys.length = xs.length + zs.length := by rw [HY.out, List.length_append]
                  rw [mkS_size, mkS_size]; omega
                clear hb7 hown7 hG7 hW7
                go_wp2_with fail
                go_roundw
                case rel => exact ⟨j + 1, _, ys, by omega, by go_num, rfl, by omega, HG7.out, HB7.out, HE7.out, hge⟩
                case measure => simp [intOf]; omega
              · have hm9 : m < 0 ∨ 8 < m := by omega
                have HM9 := Lib.hid hm9
                have hno : ¬ (0 ≤ m ∧ m ≤ 8) := hm8
                clear hm8 hm9
                have hg4 := lt_of_block HG.out
                by_cases hneg : m < 0
                all_goals
                  go_wp2_with fail
                  refine (put_no _ _ xs lit x m HB3.out.1 HM9.out).mono ?_
                  rintro e w5 ⟨rfl, hb5⟩
                  have hG5 := (hb5.block g hg4).trans HG.out
                  have hW5 := (hb5.block _ (lt_of_block HW.out)).trans HW.out
                  obtain ⟨q0, q1, p0, p1⟩ := two_cells hG5
                  obtain ⟨t1, t2, t3⟩ := two_set (u := .slice av xs.length cv) (v := .bool lit) hG5
                  have hcm6 := (World.cell?_of_block (a := ⟨b3, o3 + j, none⟩) (t2 b3 (by have := HBG.out; omega))).trans (below_cells hb5 _ _ hcm')
                  have hW6 := (t2 wr.heap.size (by omega)).trans hW5
                  have hB6 := (HB3.out.below hb5).block t2
                  have hE6 : Below w.heap.size w ((w5.setCell ⟨g, 0, none⟩ (.slice av xs.length cv)).setCell ⟨g, 1, none⟩ (.bool lit)) :=
                    ((HE3.out.trans (hb5.mono HE3.out.size)).setCell (by show w.heap.size ≤ g; omega) _).setCell (by show w.heap.size ≤ g; omega) _
                  have hk2 := conv_bs hB6.1
                  obtain ⟨r0, r1, s0, s1⟩ := two_cells t1
                  obtain ⟨i0, i1, l0, l1⟩ := two_cells hW6
                  have HG6 := Lib.hid t1
                  have HB6 := Lib.hid hB6
                  have HE6 := Lib.hid hE6
                  clear t1 t2 t3 hW6 hB6 hE6 hG5 hW5 hb5 hcm' d0 d1 hcz'
                  go_wp2_with fail
                  go_roundw
                  case rel => exact ⟨j + 1, _, xs, by omega, by go_num, rfl, by omega, HG6.out, HB6.out, HE6.out, hge⟩
                  case measure => simp [intOf]; omega
            · go_wp2_with fail
              go_ret
              exact ⟨rfl, HS.out.2.2.1⟩
          · go_wp2_with fail
            go_ret
            exact ⟨rfl, HS.out.2.2.1⟩

set_option maxRecDepth 100000 in
set_option maxHeartbeats 1000000 in
theorem law_puts_far (w : World) (v : Value) (bs : List UInt8) (lit : Bool) (hb : Bs w v bs)
    (a2 : Option Addr) (n2 c2 : Nat) (v3 : Value) (n : Int) (hn2 : n2 ≤ 9223372036854775807) (hf : 300 < bs.length ∨ 20 < n2) :
    Calls Try.prog 5 #[v, .bool lit, .slice a2 n2 c2, v3, .int .i64 n] w fun e w' => e = .returned (.bool true) ∧ Below w.heap.size w w' := by
  obtain ⟨a, c, rfl, hl1, hl2, hat⟩ := hb
  clear hat
  unfold maxLen at hl2
  by_cases h1 : 300 < bs.length
  · have hl3 : (300 : Int) < (bs.length : Int) := by omega
    clear hf
    go_enter Try.func5, Try.ntmps5
    go_wp2_with fail
    refine (known7 _).mono ?_; rintro e w1 ⟨rfl, hb1⟩
    have HE1 := Lib.hid hb1
    clear hb1
    go_wp2_with fail
    go_ret
    exact ⟨rfl, HE1.out⟩
  · have hl3 : ¬ (300 : Int) < (bs.length : Int) := by omega
    have hl4 : (20 : Int) < (n2 : Int) := by omega
    clear hf
    go_enter Try.func5, Try.ntmps5
    go_wp2_with fail
    refine (known7 _).mono ?_; rintro e w1 ⟨rfl, hb1⟩
    have HE1 := Lib.hid hb1
    clear hb1
    go_wp2_with fail
    go_ret
    exact ⟨rfl, HE1.out⟩

/-- the same, as the arguments' opening gives their facts -/
theorem law_puts' (w : World) (v v2 v3 : Value) (lit : Bool) (n : Int) (F0 : ∃ bs, Bs w v bs) (F2 : ∃ a c zs, v2 = .slice a zs.length c ∧ zs.length ≤ c ∧ c ≤ maxLen ∧ NumsAt w .u64 a zs ∧ ∀ z ∈ zs, (Lit.int .u64 z).wf = true)
    (F3 : ∃ a c zs, v3 = .slice a zs.length c ∧ zs.length ≤ c ∧ c ≤ maxLen ∧ NumsAt w .i64 a zs ∧ ∀ z ∈ zs, (Lit.int .i64 z).wf = true) (F4 : (Lit.int .i64 n).wf = true) :
    Calls Try.prog 5 #[v, .bool lit, v2, v3, .int .i64 n] w fun e w' => e = .returned (.bool true) ∧ Below w.heap.size w w' := by
  obtain ⟨bs, hb⟩ := F0
  obtain ⟨a2, c2, us, rfl, hu1, hu2, hu3, hu4⟩ := F2
  obtain ⟨a3, c3, ms, rfl, hm1, hm2, hm3, hm4⟩ := F3
  unfold maxLen at hu2 hm2
  by_cases hf : 300 < bs.length ∨ 20 < us.length
  · exact law_puts_far w v bs lit hb a2 us.length c2 _ n (by omega) hf
  · refine law_puts w v bs lit hb (by omega) a2 a3 c2 c3 us ms hu3 hm3 (by omega) (by omega) (fun z hz => ?_) n ?_
    · have := hu4 z hz
      have hx : 0 ≤ z ∧ z ≤ 18446744073709551615 := by simpa [Lit.wf, IntKind.min, IntKind.max, IntKind.signed, IntKind.bits] using this
      omega
    · simpa [Lit.wf, IntKind.min, IntKind.max, IntKind.signed, IntKind.bits] using F4
end Go.Proofs.Ytnckmaieghlpmaa
