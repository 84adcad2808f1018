/-
  The walk of horologelaw07.OctetBack.
-/
import Derived.Test.YtnckmaieghlpmaaKnown7
import Derived.Test.YtnckmaieghlpmaaRev
namespace Go.Proofs.Ytnckmaieghlpmaa
open Go.RowKit
set_option linter.unusedVariables false

/-- where the law stands in its loop -/
def BackSt (w : World) (g : Nat) (wr : World) : Prop :=
  wr.heap[g]? = some (.cells #[.int .i64 0, .int .i64 1, .int .i64 2, .int .i64 4, .int .i64 8] 3 (0, 0)) ∧ Below w.heap.size w wr ∧ w.heap.size ≤ g

def manyAt (k : Nat) : Nat := [0, 1, 2, 4, 8].getD k 0
theorem many_cell {w wr : World} {g : Nat} (h : BackSt w g wr) (k : Nat) (hk : k < 5) : wr.cell? ⟨g, k, none⟩ = some (.int .i64 (manyAt k)) := by
  rw [cell_of_row wr g k _ _ _ h.1]
  match k, hk with
  | 0, _ => rfl
  | 1, _ => rfl
  | 2, _ => rfl
  | 3, _ => rfl
  | 4, _ => rfl
theorem many_le (k : Nat) (hk : k < 5) : manyAt k = 8 ∨ manyAt k ≤ 4 := by
  match k, hk with
  | 0, _ => right; decide
  | 1, _ => right; decide
  | 2, _ => right; decide
  | 3, _ => right; decide
  | 4, _ => left; rfl

theorem num_turned (lit : Bool) (bs : List UInt8) : num (!lit) bs.reverse = num lit bs := by
  cases lit
  · show le bs.reverse = be bs; rfl
  · show be bs.reverse = le bs; exact be_reverse bs

theorem raw_even (a b : List UInt8) (h : a.length % 2 = 0) : raw false (a ++ b) = raw false a + raw false b := by
  rw [raw_append]; simp [par, h]
theorem csum_own (ev : List UInt8) (hi lo : UInt8) (S : Nat) (h : ev.length % 2 = 0) (hS : S = csum ev) (h1 : hi.toNat = S / 256) (h2 : lo.toNat = S % 256) : csum (ev ++ [hi, lo]) = 0 := by
  unfold csum
  rw [raw_even _ _ h]
  have e : raw false [hi, lo] = S := by simp [raw, h1, h2]; omega
  rw [e, hS]
  unfold csum fold16
  split <;> split <;> omega
theorem csum_split (ev : List UInt8) (at_ : Nat) (h : ev.length % 2 = 0) (h2 : at_ % 2 = 0) (hle : at_ ≤ ev.length) : csum (ev.drop at_ ++ ev.take at_) = csum ev := by
  unfold csum
  have e : raw false ev = raw false (ev.take at_ ++ ev.drop at_) := by rw [List.take_append_drop]
  rw [e, raw_even _ _ (by simp; omega), raw_even _ _ (by rw [List.length_take]; omega)]
  congr 2; omega
theorem pad_done (n : Nat) : pad ((n : Int) + (pad n : Int)) = 0 := by
  unfold pad
  rw [if_neg (by omega), if_neg (by omega)]
  omega

set_option maxRecDepth 100000 in
set_option maxHeartbeats 2000000 in
theorem law_back (w : World) (v : Value) (bs : List UInt8) (lit : Bool) (n t : Nat) (hb : Bs w v bs) (hl : bs.length ≤ 300) (hn : n < 18446744073709551616) (ht : t < 65536) :
    Calls Try.prog 6 #[v, .bool lit, .int .u64 n, .int .u16 t] w fun e w' => e = .returned (.bool true) ∧ Below w.heap.size w w' := by
  have HB := Lib.hid hb
  obtain ⟨a, c, rfl, hl1, hl2, hat⟩ := hb
  clear hat
  unfold maxLen at hl2
  have hl3 : ¬ (300 : Int) < (bs.length : Int) := by omega
  go_enter Try.func6, Try.ntmps6
  go_wp2_with fail
  refine (known7 _).mono ?_; rintro e w1 ⟨rfl, hb1⟩
  have HE1 := Lib.hid hb1
  clear hb1
  go_wp2_with fail
  obtain ⟨g, hg⟩ : ∃ g, g = w1.heap.size := ⟨_, rfl⟩
  have HSt : Hid (BackSt w g (w1.alloc (Obj.cells #[.int .i64 0, .int .i64 1, .int .i64 2, .int .i64 4, .int .i64 8] 3))) := by
    rw [hg]; exact ⟨heap_alloc_new _ _, HE1.out.trans ((below_alloc _ _).mono HE1.out.size), HE1.out.size⟩
  rw [← hg]
  clear hg
  go_loopw [30] (fun i wr => ∃ k : Nat, k ≤ 5 ∧ i = .int .i64 k ∧ Hid (BackSt w g wr)) (fun i _ => 5 - (intOf i).toNat)
  case atStart => exact ⟨0, by omega, rfl, HSt⟩
  case round =>
    obtain ⟨k, hk, rfl, HS⟩ := hrel
    clear HSt
    by_cases hlt : k < 5
    · have hcm := many_cell HS.out k hlt
      obtain ⟨m, hm⟩ : ∃ m, m = manyAt k := ⟨_, rfl⟩
      have hm8 := many_le k hlt
      rw [← hm] at hcm hm8
      clear hm
      have hmle : m ≤ 8 := by omega
      have hgl := lt_of_block HS.out.1
      have HB1 : Hid (Bs wr (.slice a bs.length c) bs) := HB.out.below HS.out.2.1
      go_wp2_with fail
      refine (put_yes _ _ bs lit n m HB1.out (by omega) hn hmle).mono ?_
      rintro e w2 ⟨v2, rfl, hown2, hb2⟩
      obtain ⟨a2, c2, rfl, hs1, hs2⟩ := hown2.slice
      obtain ⟨zs, hzs⟩ : ∃ zs, zs = numB lit n m := ⟨_, rfl⟩
      rw [← hzs] at hown2 hs1 ⊢
      have hzl : zs.length = m := by rw [hzs, numB_length]
      obtain ⟨ys, hys⟩ : ∃ ys, ys = bs ++ zs := ⟨_, rfl⟩
      rw [← hys] at hown2 hs1 ⊢
      have hyl : ys.length = bs.length + m := by rw [hys, List.length_append, hzl]
      have HY := Lib.hid hys
      have HYL := Lib.hid hyl
      have HZ := Lib.hid hzs
      have HZL := Lib.hid hzl
      have HB2 : Hid (Bs w2 (.slice a2 ys.length c2) ys) := hown2.bs
      have HS2 : Hid (BackSt w g w2) := ⟨(hb2.block g hgl).trans HS.out.1, HS.out.2.1.trans (hb2.mono HS.out.2.1.size), HS.out.2.2⟩
      clear hown2 hb2 hys hzs hzl hyl hcm
      have hnum : num lit ((ys.drop bs.length).take m) = n % 256 ^ m := by
        rw [HY.out, List.drop_left, ← HZL.out, List.take_length, HZ.out, num_numB, numB_length]
      obtain ⟨q, hq⟩ : ∃ q, q = n % 256 ^ m := ⟨_, rfl⟩
      rw [← hq] at hnum
      have hmask : bits BinOp.and IntKind.u64 (n : Int) (IntKind.u64.wrap (IntKind.u64.wrap (2 ^ (8 * m)) - 1)) = (q : Int) := by rw [mask_many n m hn hmle, hq]
      have hq8 : 8 ≤ m → q = n := by
        intro h
        obtain rfl : m = 8 := by omega
        rw [hq]; exact Nat.mod_eq_of_lt (by omega)
      have HQ := Lib.hid hq
      have HN := Lib.hid hnum
      clear hq hnum
      go_wp2_with fail
      refine (get_yes _ _ ys lit bs.length m (HB2.out.alloc _) (by rw [HYL.out]; exact Nat.le_refl _) hmle).mono ?_
      rintro e w3 ⟨rfl, hb3⟩
      rw [HN.out]
      have hc0 := (cell_behind hb3 0).trans (World.cell?_alloc_new ..)
      have hc1 := (cell_behind hb3 1).trans (World.cell?_alloc_new ..)
      have hs3 : w2.heap.size < w3.heap.size := by have := hb3.size; simp at this; omega
      have HB3 : Hid (Bs w3 (.slice a2 ys.length c2) ys) := HB2.out.below (below_past hb3)
      have HS3 : Hid (BackSt w g w3) := ⟨((below_past hb3).block g (lt_of_block HS2.out.1)).trans HS2.out.1, HS2.out.2.1.trans ((below_past hb3).mono HS2.out.2.1.size), HS2.out.2.2⟩
      clear hb3
      have hm7 : m < 8 ∨ (8 ≤ m ∧ q = n) := by
        rcases Nat.lt_or_ge m 8 with h | h
        · exact .inl h
        · exact .inr ⟨h, hq8 h⟩
      clear hq8
      have hm7' : (decide ((m : Int) < 8) = true ∧ ((m : Int) == 8) = false) ∨ (decide ((m : Int) < 8) = false ∧ ((m : Int) == 8) = true ∧ q = n) := by
        rcases hm7 with h | ⟨h, e⟩
        · left; simp; omega
        · right; simp [e]; omega
      clear hm7 hm8
      rcases hm7' with ⟨hm71, hm72⟩ | ⟨hm71, hm72, hqn⟩
      all_goals
        try subst hqn
        go_wp2_with fail
        refine (cut_yes _ _ ys lit bs.length m HB3.out (by rw [HYL.out]; exact Nat.le_refl _)).mono ?_
        rintro e w4 ⟨v4, rfl, hv4, hb4⟩
        rw [show (ys.drop bs.length).take m = zs by rw [HY.out, List.drop_left, ← HZL.out, List.take_length]] at hv4
        have HS4 : Hid (BackSt w g w4) := ⟨(hb4.block g (lt_of_block HS3.out.1)).trans HS3.out.1, HS3.out.2.1.trans (hb4.mono HS3.out.2.1.size), HS3.out.2.2⟩
        have HV4 : Hid (Bs w4 v4 zs) := hv4.bs
        clear hv4 hb4
        go_wp2_with fail
        refine (clone_any _ v4 zs HV4.out (by rw [HZL.out]; omega)).mono ?_
        rintro e w5 ⟨v5, rfl, hown5, hb5⟩
        have HS5 : Hid (BackSt w g w5) := ⟨(hb5.block g (lt_of_block HS4.out.1)).trans HS4.out.1, HS4.out.2.1.trans (hb5.mono HS4.out.2.1.size), HS4.out.2.2⟩
        have hg5 : g < w4.heap.size := lt_of_block HS4.out.1
        obtain ⟨a5, c5, rfl, hs5, hs6⟩ := hown5.slice
        have HO5 := Lib.hid hown5
        clear hown5 hb5
        go_wp2_with fail
        refine (reverse_any _ w4.heap.size _ zs HO5.out (by rw [HZL.out]; omega)).mono ?_
        rintro e w6 ⟨rfl, hown6, hb6⟩
        have HS6 : Hid (BackSt w g w6) := ⟨(hb6.block g hg5).trans HS5.out.1, HS5.out.2.1.trans (hb6.mono (by have := HS4.out.2.1.size; omega)), HS5.out.2.2⟩
        have HB6 : Hid (Bs w6 _ zs.reverse) := hown6.bs
        clear hown6 hb6
        go_wp2_with fail
        refine (get_yes _ _ zs.reverse (!lit) 0 m HB6.out (by rw [List.length_reverse, HZL.out]; omega) hmle).mono ?_
        rintro e w7 ⟨rfl, hb7⟩
        rw [show num (!lit) ((zs.reverse.drop 0).take m) = num lit ((ys.drop bs.length).take m) by
          rw [List.drop_zero, List.take_of_length_le (by rw [List.length_reverse, HZL.out]; exact Nat.le_refl _), num_turned, HY.out, List.drop_left, ← HZL.out, List.take_length], HN.out]
        have HS7 : Hid (BackSt w g w7) := ⟨(hb7.block g (lt_of_block HS6.out.1)).trans HS6.out.1, HS6.out.2.1.trans (hb7.mono HS6.out.2.1.size), HS6.out.2.2⟩
        clear hb7
        go_wp2_with fail
        go_roundw
        case rel => exact ⟨k + 1, by omega, by go_num, HS7.out⟩
        case measure => simp [intOf]; omega
    · have HBr : Hid (Bs wr (.slice a bs.length c) bs) := HB.out.below HS.out.2.1
      have HEr : Hid (Below w.heap.size w wr) := HS.out.2.1
      clear HS HE1 HB
      obtain ⟨ev, hev⟩ : ∃ ev, ev = bs.take (bs.length - bs.length % 2) := ⟨_, rfl⟩
      have hevl : ev.length = bs.length - bs.length % 2 := by rw [hev, List.length_take]; omega
      have hevb : Bs wr (.slice a ev.length c) ev := by
        obtain ⟨c', hc'⟩ := HBr.out.cap
        have hcc : c' = c := by obtain ⟨_, e, _⟩ := hc'; simp only [Value.slice.injEq] at e; exact e.2.2.symm
        subst hcc
        have := (bsc_sliced hc' (l := 0) (hi := ev.length) (m := c') (by omega) (by omega) (Nat.le_refl _) (by omega)).bs
        rw [List.drop_zero, Nat.sub_zero, hevl, ← hev] at this
        rw [hevl]
        simpa [sliced, Addr.add] using this
      have hmod : (bs.length : Int) - (bs.length : Int) % 2 = (ev.length : Int) := by omega
      have hpar : ev.length % 2 = 0 := by omega
      have hevle : ev.length ≤ bs.length := by omega
      have HPAR := Lib.hid hpar
      have HEV := Lib.hid hevb
      clear hev hevl hpar hevb
      have hge5 : ¬ (k : Int) < 5 := by omega
      obtain ⟨S, hS⟩ : ∃ S, S = csum ev := ⟨_, rfl⟩
      have hS6 : S ≤ 65535 := by rw [hS]; unfold csum; omega
      have HSS := Lib.hid hS
      clear hS
      go_wp2_with fail
      refine (sum_any _ _ _ [ev] (by simp) (by simp; omega) (rows2_one _ _ HEV.out rfl)).mono ?_
      rintro e w2 ⟨rfl, rfl⟩
      rw [show csum [ev].flatten = S by rw [HSS.out]; simp]
      have HE2 : Hid (Below w.heap.size w (wr.alloc (Obj.cells #[Value.slice a ev.length c] 24))) := HEr.out.trans ((below_alloc _ _).mono HEr.out.size)
      have HEV2 : Hid (Bs (wr.alloc (Obj.cells #[Value.slice a ev.length c] 24)) _ ev) := HEV.out.alloc _
      generalize (wr.alloc (Obj.cells #[Value.slice a ev.length c] 24)) = w2 at *
      obtain ⟨hb, hhb⟩ : ∃ hb : UInt8, hb.toNat = S / 256 := ⟨UInt8.ofNat (S / 256), by simp; omega⟩
      obtain ⟨lb, hlb⟩ : ∃ lb : UInt8, lb.toNat = S % 256 := ⟨UInt8.ofNat (S % 256), by simp⟩
      have h1 : (S : Int) / 256 = (hb.toNat : Int) := by rw [hhb]; omega
      have h2 : IntKind.u8.wrap (S : Int) = (lb.toNat : Int) := by rw [hlb, IntKind.wrap_u8]; omega
      have HH := Lib.hid hhb
      have HL := Lib.hid hlb
      have hbl : hb.toNat < 256 := hb.toNat_lt
      clear hhb hlb
      go_wp2_with fail
      refine (sum_any _ _ _ [ev, [hb, lb]] (by simp) (by simp; omega) (rows2_two _ _ (HEV2.out.alloc _) (bs_new w2 [hb, lb] _ 5 _ rfl (by show 2 ≤ maxLen; decide)) (by simp))).mono ?_
      rintro e w3 ⟨rfl, hw3⟩
      rw [show csum [ev, [hb, lb]].flatten = 0 by
        rw [show [ev, [hb, lb]].flatten = ev ++ [hb, lb] by simp]
        exact csum_own ev hb lb S HPAR.out HSS.out HH.out HL.out]
      have HE3 : Hid (Below w.heap.size w w3) := by
        rw [← hw3]; exact (HE2.out.alloc HE2.out.size _).alloc (by have := HE2.out.size; simp; omega) _
      have HEV3 : Hid (Bs w3 (.slice a ev.length c) ev) := by rw [← hw3]; exact (HEV2.out.alloc _).alloc _
      clear hw3
      obtain ⟨P, hP⟩ : ∃ P, P = pad bs.length := ⟨_, rfl⟩
      have hP3 : P ≤ 3 := by rw [hP]; unfold pad; split <;> omega
      have hP0 : pad ((bs.length : Int) + (P : Int)) = 0 := by rw [hP]; exact pad_done _
      have hwP : IntKind.i64.wrap ((bs.length : Int) + (P : Int)) = (bs.length : Int) + (P : Int) := IntWalk.i64_in _ (by omega)
      have HP := Lib.hid hP
      have HP0 := Lib.hid hP0
      obtain ⟨A, hA⟩ : ∃ A, A = if 0 < ev.length then t % ev.length / 2 * 2 else 0 := ⟨_, rfl⟩
      have hA1 : A ≤ ev.length := by
        rw [hA]; split
        · have := Nat.mod_lt t ‹0 < ev.length›; omega
        · omega
      have hA2 : A % 2 = 0 := by rw [hA]; split <;> omega
      have hA3 : 0 < ev.length → (t : Int) % (ev.length : Int) / 2 * 2 = (A : Int) := by
        intro h
        rw [hA, if_pos h]; simp
      have hA4 : ¬ 0 < ev.length → A = 0 := by
        intro h; rw [hA, if_neg h]
      have HA2 := Lib.hid hA2
      have HA3 := Lib.hid hA3
      have HA4 := Lib.hid hA4
      clear hP hP0 hA hA2 hA3 hA4 HEV HEV2 h1 h2 HH HL hbl
      by_cases hpos : 0 < ev.length
      · have hA3 := HA3.out hpos
        go_wp2_with fail
        obtain ⟨a3, ha3⟩ : ∃ a3, a3 = if c = A then a else Option.map (fun x => x.add A) a := ⟨_, rfl⟩
        have hsl : ∀ X, (Instr.slice 24 (.slice a ev.length c) (some (.int .i64 A)) none none).run Try.prog X = .ok (.slice a3 (ev.length - A) (c - A)) X := by
          intro X
          rw [ha3]
          have h0 : (A : Int) ≤ ev.length := by omega
          simp [go_sem, h0, sliced]
        have hdl : (ev.drop A).length = ev.length - A := by simp
        have htl : (ev.take A).length = A := by simp; omega
        have hB3 : Bs w3 (.slice a3 (ev.length - A) (c - A)) (ev.drop A) ∧ Bs w3 (.slice a A c) (ev.take A) := by
          obtain ⟨c', hc'⟩ := HEV3.out.cap
          have hcc : c' = c := by obtain ⟨_, e, _⟩ := hc'; simp only [Value.slice.injEq] at e; exact e.2.2.symm
          subst hcc
          have h1 := (bsc_sliced hc' (l := A) (hi := ev.length) (m := c') (by omega) (by omega) (Nat.le_refl _) (by omega)).bs
          have h2 := (bsc_sliced hc' (l := 0) (hi := A) (m := c') (by omega) (by omega) (Nat.le_refl _) (by omega)).bs
          rw [show (ev.drop A).take (ev.length - A) = ev.drop A by rw [List.take_of_length_le (by simp)]] at h1
          rw [List.drop_zero, Nat.sub_zero] at h2
          constructor
          · rw [ha3]; simpa [sliced] using h1
          · simpa [sliced, Addr.add] using h2
        have HB3 := Lib.hid hB3
        have hcs : csum [ev.drop A, ev.take A].flatten = S := by
          rw [show [ev.drop A, ev.take A].flatten = ev.drop A ++ ev.take A by simp, HSS.out]
          exact csum_split ev A HPAR.out HA2.out hA1
        have HCS := Lib.hid hcs
        clear ha3 hB3 hcs hA3 hdl htl
        have HR : Hid (Rows2 ((w3.alloc (Obj.cells #[Value.slice a3 (ev.length - A) (c - A), Value.slice a A c] 24)).drew) (some ⟨w3.heap.size, 0, none⟩) [ev.drop A, ev.take A]) :=
          rows2_two (w := w3) 24 (0, 0) HB3.out.1 HB3.out.2 rfl
        have HE4 : Hid (Below w.heap.size w ((w3.alloc (Obj.cells #[Value.slice a3 (ev.length - A) (c - A), Value.slice a A c] 24)).drew)) := (HE3.out.alloc HE3.out.size _).drew
        go_region_with (first
          | (go_at_call 24; refine (sum_any _ _ _ [ev.drop A, ev.take A] (by simp) (by simp; omega) HR.out).mono ?_; rintro e w4 ⟨rfl, rfl⟩; rw [HCS.out])
          | (go_at_call 32; refine (pad_any _ _ (by omega)).mono ?_; rintro e w4 ⟨rfl, rfl⟩; first | rw [← HP.out] | rw [HP0.out]))
        all_goals
          go_wp2
          go_ret
          exact ⟨rfl, HE4.out⟩
      · have hA0 := HA4.out hpos
        subst hA0
        have hz : ev.length = 0 := by omega
        have hze : ev = [] := List.eq_nil_of_length_eq_zero hz
        have hnp : ¬ (0 : Int) < (ev.length : Int) := by omega
        obtain ⟨a3, ha3⟩ : ∃ a3, a3 = if c = 0 then a else Option.map (fun x => x.add 0) a := ⟨_, rfl⟩
        have hsl : ∀ X, (Instr.slice 24 (.slice a ev.length c) (some (.int .i64 0)) none none).run Try.prog X = .ok (.slice a3 ev.length c) X := by
          intro X
          rw [ha3]
          simp [go_sem, sliced]
        have hce : c ≤ maxLen := by
          obtain ⟨_, c', e, _, h, _⟩ := HEV3.out
          simp only [Value.slice.injEq] at e
          rw [e.2.2]; exact h
        have hB3 : Bs w3 (.slice a3 ev.length c) [] ∧ Bs w3 (.slice a 0 c) [] := by
          rw [hz]
          exact ⟨(bsc_nothing w3 a3 [] rfl c hce).bs, (bsc_nothing w3 a [] rfl c hce).bs⟩
        have HB3 := Lib.hid hB3
        have hcs : csum [([] : List UInt8), []].flatten = S := by
          rw [HSS.out, hze]; rfl
        have HCS := Lib.hid hcs
        have HR : Hid (Rows2 ((w3.alloc (Obj.cells #[Value.slice a3 ev.length c, Value.slice a 0 c] 24)).drew) (some ⟨w3.heap.size, 0, none⟩) [[], []]) :=
          rows2_two (w := w3) 24 (0, 0) HB3.out.1 HB3.out.2 rfl
        have HE4 : Hid (Below w.heap.size w ((w3.alloc (Obj.cells #[Value.slice a3 ev.length c, Value.slice a 0 c] 24)).drew)) := (HE3.out.alloc HE3.out.size _).drew
        clear ha3 hB3 hcs hz hze hpos hce
        go_wp2_with fail
        go_region_with (first
          | (go_at_call 24; refine (sum_any _ _ _ [[], []] (by simp) (by simp) HR.out).mono ?_; rintro e w4 ⟨rfl, rfl⟩; rw [HCS.out])
          | (go_at_call 32; refine (pad_any _ _ (by omega)).mono ?_; rintro e w4 ⟨rfl, rfl⟩; first | rw [← HP.out] | rw [HP0.out]))
        all_goals
          go_wp2
          go_ret
          exact ⟨rfl, HE4.out⟩

set_option maxRecDepth 100000 in
set_option maxHeartbeats 1000000 in
theorem law_back' (w : World) (v : Value) (lit : Bool) (n t : Int) (F0 : ∃ bs, Bs w v bs) (F2 : (Lit.int .u64 n).wf = true) (F3 : (Lit.int .u16 t).wf = true) :
    Calls Try.prog 6 #[v, .bool lit, .int .u64 n, .int .u16 t] w fun e w' => e = .returned (.bool true) ∧ Below w.heap.size w w' := by
  obtain ⟨bs, hb⟩ := F0
  have hx : 0 ≤ n ∧ n ≤ 18446744073709551615 := by simpa [Lit.wf, IntKind.min, IntKind.max, IntKind.signed, IntKind.bits] using F2
  have hy : 0 ≤ t ∧ t ≤ 65535 := by simpa [Lit.wf, IntKind.min, IntKind.max, IntKind.signed, IntKind.bits] using F3
  obtain ⟨n, rfl⟩ := Int.eq_ofNat_of_zero_le hx.1
  obtain ⟨t, rfl⟩ := Int.eq_ofNat_of_zero_le hy.1
  by_cases hl : bs.length ≤ 300
  · exact law_back w v bs lit n t hb hl (by omega) (by omega)
  · obtain ⟨a, c, rfl, hl1, hl2, hat⟩ := hb
    clear hat F2 F3 hx hy
    unfold maxLen at hl2
    have hl3 : (300 : Int) < (bs.length : Int) := by omega
    go_enter Try.func6, Try.ntmps6
    go_wp2_with fail
    refine (known7 _).mono ?_; rintro e w1 ⟨rfl, hb1⟩
    have HE1 := Lib.hid hb1
    clear hb1
    go_wp2_with fail
    go_ret
    exact ⟨rfl, HE1.out⟩
end Go.Proofs.Ytnckmaieghlpmaa
