/-
  The law FragOldest: of more packets than a table is for the first one that began goes.
-/
import Derived.Test.YtnckmaieghlpmaaFpart
namespace Go.Proofs.Ytnckmaieghlpmaa
open Go.RowKit
set_option linter.unusedVariables false
set_option linter.unusedSimpArgs false
attribute [local go_sem ↓] fold_ld54 fold_st54 fold_ld90 fold_st90 fold_ld121 fold_st121 fold_ld124 fold_st124 Go.wp_at_zero Go.wp_at_succ
attribute [local go_sem] ld54_at st54_at ld90_at st90_pt ld121_at st121_nm ld124_at free_new1 bx36 bx37 bx38 bxhas bxrd

/-- the box of 'of', and a table with these packets -/
def Old (W : World) (y : PartD) (u : Value) (gf F m n : Nat) (l : List Nat) (wr : World) : Prop :=
  PtAt wr gf 0 y u ∧ ∃ M, KS W W.heap.size wr M F m 16 (l.map (pkI y)) n
theorem call57 (args : Array Value) (w : World) : (callFunc 57 args).run Try.prog w = .ok (.enter 57 args) w := by go_simp
theorem nine (u : Value) (w : World) (base id : Nat) (h : Own w base u [UInt8.ofNat id, 1, 2, 3, 4, 5, 6, 7, 9]) : ∃ g c, u = .slice (some ⟨g, 0, none⟩) 9 c ∧ 9 ≤ c ∧ c ≤ 9223372036854775807 ∧ w.cell? ⟨g, 0, none⟩ = some (.int .u8 ((UInt8.ofNat id).toNat : Int)) ∧ w.cell? ⟨g, 8, none⟩ = some (.int .u8 9) := by
  rcases h.shape with ⟨_, e⟩ | ⟨g, c, e, _, _, h1, h2⟩
  · cases e
  · subst e
    exact ⟨g, c, rfl, h1, by unfold maxLen at h2; omega, own_cell h (j := 0) rfl, own_cell h (j := 8) rfl⟩
/-- one part more: the closure, then Take -/
def OldR (W : World) (y : PartD) (u : Value) (gf F m n : Nat) (T' : List PkT) (bs : List UInt8) (is : Bool) (d : Nat) (base : Nat) (e : Ending) (w' : World) : Prop :=
  ∃ q, e = .returned (.tuple #[q, .bool is, .int .u8 (d : Int)]) ∧ Own w' base q bs ∧ PtAt w' gf 0 y u ∧ ∃ M, KS W W.heap.size w' M F m 16 T' (n + 1)
theorem old_take {W wr w5 : World} {y : PartD} {u : Value} {gf F m n : Nat} {T T' : List PkT} {bs : List UInt8} {is : Bool} {d : Nat} {p : PartD} {v : Value} (hg : gf < W.heap.size) (hpt : PtAt wr gf 0 y u) {M : Nat → Prop} (hK : KS W W.heap.size wr M F m 16 T n) (ho : Own w5 wr.heap.size v p.bs) (hb : Below wr.heap.size wr w5) (hR : takeS (m : Int) 16 T p = ⟨T', bs, is, d⟩) (hn : n ≤ 1048576) (hp : p.nm.fit) (hpl : p.bs.length ≤ 1048576) :
    Calls Try.prog 51 #[.pointer (some ⟨F, 0, none⟩), .agg (partA p v)] w5 (OldR W y u gf F m n T' bs is d w5.heap.size) := by
  refine (ks_take (hK.below hb) hR hn hp ho.bs (fun _ k hk hm => by have := hK.tb.sub k hm; have := (World.ownsRow.lt ho k hk).1; omega) (by decide) hpl).mono ?_
  rintro e w6 ⟨q, M', he, h1, h2, _, h3, _⟩
  exact ⟨q, he, h1, fun j z hz => h3.cell (hpt.below hb j z hz) (fun hm => by have := hK.old gf hm; omega), M', h2⟩

set_option maxRecDepth 100000 in
set_option maxHeartbeats 8000000 in
theorem law_fold (W : World) (y : PartD) (u : Value) (many : Nat) (hy : y.nm.fit) (hu : u.oneCell' = true) (hmany : many < 256) :
    Calls Try.prog 22 #[.agg (partA y u), .int .u8 many] W fun e W' => e = .returned (.bool true) ∧ Below W.heap.size W W' := by
  have HY := Lib.hid hy
  have HP0 : Hid (PtAt (W.alloc (.cells (partA y u) 90)) W.heap.size 0 y u ∧ W.heap.size < (W.alloc (.cells (partA y u) 90)).heap.size ∧ Below W.heap.size W (W.alloc (.cells (partA y u) 90))) := Lib.hid ⟨ptAt_new W y u 90, by simp, below_alloc W _⟩
  have hw64 : IntKind.i64.wrap (many : Int) = (many : Int) := by rw [IntKind.wrap_i64]; omega
  have t1 : (many : Int).tmod 20 = (many : Int) % 20 := Int.tmod_eq_emod_of_nonneg (by omega)
  obtain ⟨r, hr⟩ : ∃ r : Nat, (many : Int) % 20 = r := ⟨many % 20, by omega⟩
  have hr20 : r < 20 := by omega
  clear hy
  go_enter Try.func22, Try.ntmps22
  go_upto_region 1 with fail
  generalize W.alloc (.cells (partA y u) 90) = W1 at HP0 ⊢
  obtain ⟨gf, hgf⟩ : ∃ g, g = W.heap.size := ⟨_, rfl⟩
  have HGF := Lib.hid hgf
  have HP1 : Hid (PtAt W1 gf 0 y u ∧ gf < W1.heap.size) := Lib.hid (by rw [hgf]; exact ⟨HP0.out.1, HP0.out.2.1⟩)
  rw [← hgf]
  clear hgf
  go_wp2_with fail
  refine (known17 _).mono ?_
  rintro e w1 ⟨rfl, hb1⟩
  have HB1 := Lib.hid hb1
  clear hb1
  go_upto_region 4 with fail
  obtain ⟨m, hm⟩ : ∃ m : Nat, 1 + (r : Int) = m := ⟨r + 1, by omega⟩
  have hm1 : 1 ≤ m := by omega
  have hm20 : m ≤ 20 := by omega
  rw [hm]
  clear hm hw64 t1 hr hr20 hmany
  go_wp2_with fail
  refine (new_any _ m 16).mono ?_
  rintro e w2 ⟨rfl, rfl⟩
  have K2 : Hid (Old W1 y u gf w1.heap.size m 0 (lA m 0) (w1.alloc (.cells #[.int .i64 m, .int .i64 16, .slice none 0 0] 115))) := Lib.hid ⟨(HP1.out.1.below HB1.out).below (below_alloc _ _), _, ks_new W1 w1 W1.heap.size m 16 0 HB1.out HB1.out.size⟩
  generalize (w1.alloc (.cells #[.int .i64 m, .int .i64 16, .slice none 0 0] 115)) = w2 at K2 ⊢
  generalize w1.heap.size = F at K2 ⊢
  clear HB1
  go_wp2_with fail
  go_loopw [8] (fun s8 wr => ∃ k : Nat, s8 = .int .i64 k ∧ k ≤ m + 1 ∧ Hid (Old W1 y u gf F m k (lA m k) wr)) (fun s8 _ => m + 1 - (intOf s8).toNat)
  case atStart => exact ⟨0, rfl, Nat.zero_le _, K2.out⟩
  case round =>
    obtain ⟨k, rfl, hk, HO⟩ := hrel
    by_cases hlt : k ≤ m
    · have HC := Lib.hid (opart_any wr gf y u HY.out.1 hu HO.out.1 k (by omega) false)
      go_wp2_with fail
      refine HC.out.mono ?_
      rintro e w5 ⟨v, rfl, ho, hb⟩
      have HO5 := Lib.hid ho
      have HB5 := Lib.hid hb
      clear ho hb HC
      go_wp2_with fail
      obtain ⟨M, hK⟩ := HO.out.2
      refine (old_take HP1.out.2 HO.out.1 hK HO5.out HB5.out (takeA hm1 hlt) (by omega) (nmI_fit HY.out (by omega)) (by simp [oP])).mono ?_
      rintro e w6 ⟨q, rfl, hq, hpt, M', hK'⟩
      have H6 : Hid (Old W1 y u gf F m (k + 1) (lA m (k + 1)) w6) := Lib.hid ⟨hpt, M', hK'⟩
      clear hq hpt hK' hK
      go_wp2_with fail
      go_roundw
      case rel => exact ⟨k + 1, by go_num, by omega, H6.out⟩
      case measure => simp [intOf]; omega
    · have hkm : k = m + 1 := by omega
      have H7 : Hid (Old W1 y u gf F m (m + 1 + 0) (lB m 0) wr) := Lib.hid (by rw [← lA_end]; rw [← hkm]; exact HO.out)
      clear HO K2 hkm
      go_wp2_with fail
      obtain ⟨wo, rfl⟩ : ∃ wo : World, wo = wr := ⟨_, rfl⟩
      go_loopw [12] (fun s12 wr => ∃ k : Nat, s12 = .int .i64 ((k : Int) + 1) ∧ k ≤ m ∧ Hid (Old W1 y u gf F m (m + 1 + k) (lB m k) wr)) (fun s12 _ => m + 1 - (intOf s12).toNat)
      case atStart => exact ⟨0, rfl, Nat.zero_le _, H7.out⟩
      case round =>
        obtain ⟨j, rfl, hj, HO⟩ := hrel
        by_cases hlt : j < m
        · have HC := Lib.hid (opart_any wr gf y u HY.out.1 hu HO.out.1 (j + 1) (by omega) true)
          have e2 : IntKind.u8.wrap ((j : Int) + 1) = (((UInt8.ofNat (j + 1)).toNat : Nat) : Int) := by rw [IntKind.wrap_u8]; simp
          obtain ⟨bv, hbv⟩ : ∃ b, b = (((UInt8.ofNat (j + 1)).toNat : Nat) : Int) := ⟨_, rfl⟩
          rw [← hbv] at e2
          have HBV := Lib.hid hbv
          have hcast : ((j + 1 : Nat) : Int) = (j : Int) + 1 := by omega
          rw [hcast] at HC
          clear hbv hcast
          go_wp2_with fail
          refine HC.out.mono ?_
          rintro e w5 ⟨v, rfl, ho, hb⟩
          have HO5 := Lib.hid ho
          have HB5 := Lib.hid hb
          clear ho hb HC
          go_wp2_with fail
          obtain ⟨M, hK⟩ := HO.out.2
          refine (old_take HP1.out.2 HO.out.1 hK HO5.out HB5.out (takeB hm1 hlt) (by omega) (nmI_fit HY.out (by omega)) (by simp [oP])).mono ?_
          rintro e w6 ⟨q, rfl, hq, hpt, M', hK'⟩
          have H6 : Hid (Old W1 y u gf F m (m + 1 + (j + 1)) (lB m (j + 1)) w6) := Lib.hid ⟨hpt, M', hK'⟩
          obtain ⟨g9, c9, rfl, hc9, hc93, q0, q8⟩ := nine q w6 _ (j + 1) hq
          rw [← HBV.out] at q0
          clear hq hpt hK' hK
          go_wp2_with fail
          go_roundw
          case rel => exact ⟨j + 1, by go_num, by omega, H6.out⟩
          case measure => simp [intOf]; omega
        · obtain rfl : j = m := by omega
          have HC := Lib.hid (opart_any wr gf y u HY.out.1 hu HO.out.1 0 (by omega) true)
          obtain ⟨M, hK⟩ := HO.out.2
          rw [lB_end] at hK
          have HK := Lib.hid hK
          clear hK
          go_wp2_with fail
          refine HC.out.mono ?_
          rintro e w5 ⟨v, rfl, ho, hb⟩
          have HO5 := Lib.hid ho
          have HB5 := Lib.hid hb
          clear ho hb HC
          go_wp2_with fail
          refine (old_take HP1.out.2 HO.out.1 HK.out HO5.out HB5.out (take_anew hm1) (by omega) (nmI_fit HY.out (by omega)) (by simp [oP])).mono ?_
          rintro e w6 ⟨q, rfl, hq, hpt, M', hK'⟩
          have HK6 := Lib.hid hK'
          clear hq hpt hK'
          go_wp2_with fail
          refine (ks_live HK6.out (by omega)).mono ?_
          rintro e w7 ⟨rfl, hb7⟩
          have HK7 := Lib.hid (HK6.out.below hb7)
          have hlen : ([(nmI y 0, [oP y 0 true])] : List PkT).length = 1 := rfl
          have hbyt : bytesT [(nmI y 0, [oP y 0 true])] = 1 := rfl
          rw [hlen, hbyt]
          clear hb7 hlen hbyt
          go_wp2_with fail
          go_ret
          exact ⟨rfl, HP0.out.2.2.then HK7.out.bel⟩
end Go.Proofs.Ytnckmaieghlpmaa
