/-
  The walk of horologelaw17.cut.
-/
import Derived.Test.YtnckmaieghlpmaaFcut
import Derived.Test.YtnckmaieghlpmaaPmix2
import Derived.Test.YtnckmaieghlpmaaFpart
namespace Go.Proofs.Ytnckmaieghlpmaa
open Go.RowKit
set_option linter.unusedVariables false
set_option linter.unusedSimpArgs false
attribute [local go_sem ↓] fold_ld54 fold_st54 fold_ld90 fold_st90 fold_ld121 fold_st121 fold_ld124 fold_st124 fold_bs83 Go.wp_at_zero Go.wp_at_succ
attribute [local go_sem] ld54_at st54_at ld90_at st90_pt ld121_at st121_nm ld124_at free_new1 bx36 bx37 bx38 bxhas bxrd bs83_at

/-- parts with their bytes: what has been cut off so far -/
def CutM (w0 w : World) (y : PartD) (b sizes : List UInt8) (k : Nat) (v : Value) (wr : World) : Prop :=
  ∃ L, L.map (·.1) = cutL y b sizes k ∧ RowP wr w.heap.size v k L ∧ (∀ z ∈ L, Bs w0 z.2 z.1.bs) ∧ Below w.heap.size w wr
theorem cutM_step {w0 w wr w' : World} {y : PartD} {b sizes : List UInt8} {k : Nat} {v v' u : Value} {L : List (PartD × Value)} (h1 : L.map (·.1) = cutL y b sizes k) (h2 : RowP wr w.heap.size v k L) (h3 : ∀ z ∈ L, Bs w0 z.2 z.1.bs) (hy : y.nm.ok) (hb : Below w.heap.size w w') (hu : u.oneCell' = true) (hbs : Bs w0 u ((b.drop (posAt sizes k)).take (cutN sizes k)))
    (how : w'.ownsRow w.heap.size 90 39 v' (k + 1) (ptRow L ++ partL (cutP y b (cutN sizes k) (posAt sizes k)) u)) : CutM w0 w y b sizes (k + 1) v' w' := by
  refine ⟨L ++ [(cutP y b (cutN sizes k) (posAt sizes k), u)], ?_, ⟨?_, ?_, fun z hz => ?_⟩, fun z hz => ?_, hb⟩
  · rw [List.map_append, h1]; rfl
  · have e : ptRow (L ++ [(cutP y b (cutN sizes k) (posAt sizes k), u)]) = ptRow L ++ partL (cutP y b (cutN sizes k) (posAt sizes k)) u := by simp [ptRow]
    rw [e]; exact how
  · rw [List.length_append, h2.len]; rfl
  · rcases List.mem_append.1 hz with hz | hz
    · exact h2.ok z hz
    · simp at hz; subst hz; exact ⟨hy, hu⟩
  · rcases List.mem_append.1 hz with hz | hz
    · exact h3 z hz
    · simp at hz; subst hz; exact hbs
theorem cut_bs {w : World} {b : List UInt8} {bb bo po n hi c : Nat} (h : ∀ q x, b[q]? = some x → w.cell? ⟨bb, bo + q, none⟩ = some (.int .u8 ((x : UInt8).toNat : Int))) (h1 : po ≤ hi) (h2 : hi = min (po + n) b.length) (h3 : hi ≤ c) (hc : c ≤ 9223372036854775807) : Bs w (.slice (some ⟨bb, bo + po, none⟩) (hi - po) (c - po)) ((b.drop po).take n) := by
  have hl : ((b.drop po).take n).length = hi - po := by rw [List.length_take, List.length_drop]; omega
  refine ⟨some ⟨bb, bo + po, none⟩, c - po, by rw [hl], by rw [hl]; omega, by unfold maxLen; omega, .inr ⟨bb, bo + po, rfl, fun i x hx => ?_⟩⟩
  rw [List.getElem?_take] at hx
  split at hx
  · rw [List.getElem?_drop] at hx
    have := h (po + i) x hx
    rwa [show bo + po + i = bo + (po + i) by omega]
  · cases hx
def CutRet (w0 w : World) (y : PartD) (b sizes : List UInt8) (e : Ending) (w' : World) : Prop :=
  ∃ v k, e = .returned v ∧ k ≤ 1048576 ∧ (∀ j, j < k → posAt sizes j < b.length) ∧ b.length ≤ posAt sizes k ∧ CutM w0 w y b sizes k v w'
/-- a part's box behind the three stores -/
theorem cut_box {wo wr wx : World} {y : PartD} {u : Value} {g : Nat} (h : BoxU wo wr (y, u) g wx) (hy : y.nm.ok) (pos : Int) (more : Bool) (bs : List UInt8) (v : Value) :
    PtAt (((wx.setCell ⟨g, 36, none⟩ (.int .i64 pos)).setCell ⟨g, 37, none⟩ (.bool more)).setCell ⟨g, 38, none⟩ v) g 0 ⟨y.nm, pos, more, bs⟩ v ∧ Below wo.heap.size wo (((wx.setCell ⟨g, 36, none⟩ (.int .i64 pos)).setCell ⟨g, 37, none⟩ (.bool more)).setCell ⟨g, 38, none⟩ v) := by
  obtain ⟨h1, h2, h3, h4, h5⟩ := h
  refine ⟨?_, ((h5.setCell (p := ⟨g, 36, none⟩) h3 _).setCell (p := ⟨g, 37, none⟩) h3 _).setCell (p := ⟨g, 38, none⟩) h3 _⟩
  have := rangeAt_set (rangeAt_set (rangeAt_set h1 36 (.int .i64 pos)) 37 (.bool more)) 38 v
  rw [partL_sets3 y u hy pos more bs] at this
  exact this

def SC (w' : World) : Prop := True ∧ True
set_option maxRecDepth 100000 in
set_option maxHeartbeats 8000000 in
theorem cut_any (w0 w : World) (y : PartD) (u vb vs : Value) (b sizes : List UInt8) (hy : y.nm.ok) (hu : u.oneCell' = true) (hb : Bs w0 vb b) (hs : Bs w vs sizes) (hbl : b.length ≤ 1000) (hsl : sizes.length ≤ 60) :
    Calls Try.prog 56 #[.agg (partA y u), vb, vs] w (CutRet w0 w y b sizes) := by
  have HY := Lib.hid hy
  have HB := Lib.hid hb
  have HS := Lib.hid hs
  obtain ⟨a, c, rfl, hl1, hl2, hat⟩ := hb
  obtain ⟨a2, c2, rfl, hm1, hm2, hat2⟩ := hs
  obtain ⟨lb, hlb⟩ : ∃ l, l = b.length := ⟨_, rfl⟩
  obtain ⟨ls, hls⟩ : ∃ l, l = sizes.length := ⟨_, rfl⟩
  rw [← hlb] at hl1 hbl ⊢
  rw [← hls] at hm1 hsl ⊢
  unfold maxLen at hl2 hm2
  have HLB := Lib.hid hlb
  have HLS := Lib.hid hls
  have HAT := Lib.hid hat
  have HAT2 := Lib.hid hat2
  have HP : Hid (PtAt (w.alloc (.cells (partA y u) 90)) w.heap.size 0 y u ∧ Below w.heap.size w (w.alloc (.cells (partA y u) 90)) ∧ w.heap.size < (w.alloc (.cells (partA y u) 90)).heap.size) := Lib.hid ⟨ptAt_new w y u 90, below_alloc w _, by simp⟩
  clear hat hat2 hlb hls hy
  obtain ⟨Q, hQ⟩ : ∃ Q, Q = CutRet w0 w y b sizes := ⟨_, rfl⟩
  rw [← hQ]
  have HQ := Lib.hid hQ
  clear hQ
  go_enter Try.func56, Try.ntmps56
  go_upto_region 1 with fail
  generalize w.alloc (.cells (partA y u) 90) = w1 at HP ⊢
  obtain ⟨gy, hgy⟩ : ∃ g, g = w.heap.size := ⟨_, rfl⟩
  have HGY := Lib.hid hgy
  rw [← hgy]
  have HPY : Hid (PtAt w1 gy 0 y u) := Lib.hid (by rw [hgy]; exact HP.out.1)
  have HGL : Hid (gy < w1.heap.size) := Lib.hid (by rw [hgy]; exact HP.out.2.2)
  clear hgy
  go_wp2_with fail
  go_loopw [7, 8, 9] (fun s7 s8 s9 wr => ∃ (k po : Nat), s8 = .int .i64 po ∧ s9 = .int .i64 k ∧ po ≤ 1064 ∧ 8 * k ≤ po ∧ Hid (po = posAt sizes k ∧ (∀ j, j < k → posAt sizes j < b.length) ∧ CutM w0 w1 y b sizes k s7 wr)) (fun s7 s8 s9 _ => 2000 - (intOf s8).toNat)
  case atStart => exact ⟨0, 0, rfl, rfl, by omega, by omega, rfl, fun j hj => absurd hj (by omega), [], rfl, ⟨World.ownsRow_nil _ _ _ _, rfl, (fun z hz => by cases hz)⟩, (fun z hz => by cases hz), Below.refl _ _⟩
  case round =>
    obtain ⟨k, po, rfl, rfl, hpo, hk8, HX⟩ := hrel
    by_cases hlt : po < lb
    · obtain ⟨n, hn⟩ : ∃ n, n = cutN sizes k := ⟨_, rfl⟩
      have hnr := cutN_rng sizes k
      rw [← hn] at hnr
      have HN := Lib.hid hn
      go_upto_if 20 with fail
      obtain ⟨wo, rfl⟩ : ∃ wo : World, wo = wr := ⟨_, rfl⟩
      go_cut [10] (fun s10 wx => s10 = .int .i64 n ∧ wx = wo)
      case first =>
        by_cases h0 : ls = 0
        · have hn8 : n = 8 := by
            rw [hn]
            unfold cutN
            have : sizes = [] := List.eq_nil_of_length_eq_zero (by rw [← HLS.out]; exact h0)
            rw [this]; rfl
          subst h0
          clear hn
          go_wp2_with fail
          go_meet
          case rel => exact ⟨by rw [hn8]; rfl, rfl⟩
        · obtain ⟨r, hr, hr2, hr3⟩ : ∃ r : Nat, (k : Int).tmod (ls : Int) = r ∧ r < ls ∧ r = k % sizes.length := ⟨k % ls, by rw [Int.tmod_eq_emod_of_nonneg (by omega)]; omega, Nat.mod_lt _ (by omega), by rw [HLS.out]⟩
          obtain ⟨sw, hsw⟩ : ∃ s, sizes[r]? = some s := ⟨sizes[r]'(by rw [← HLS.out]; exact hr2), by rw [List.getElem?_eq_getElem]⟩
          obtain ⟨bb, oo, rfl, hby⟩ : ∃ b o, a2 = some ⟨b, o, none⟩ ∧ ∀ q x, sizes[q]? = some x → w.cell? ⟨b, o + q, none⟩ = some (.int .u8 (x.toNat : Int)) := by
            rcases HAT2.out with h | h
            · rw [h] at hsw; simp at hsw
            · exact h
          have hcb := below_cells ((HP.out.2.1).then HX.out.2.2.choose_spec.2.2.2) _ _ (hby r sw hsw)
          have hsw255 := sw.toNat_lt
          obtain ⟨sn, hsn⟩ : ∃ s, s = sw.toNat := ⟨_, rfl⟩
          rw [← hsn] at hcb hsw255
          have hnn : n = 8 + 8 * (sn % 8) := by
            rw [hn]
            unfold cutN
            rw [← hr3, hsw, hsn]
          obtain ⟨s8, hs8, hs8l⟩ : ∃ t : Nat, (sn : Int) % 8 = t ∧ t < 8 := ⟨sn % 8, by omega, by omega⟩
          have hs8' : (sn : Int).tmod 8 = (s8 : Int) := by rw [Int.tmod_eq_emod_of_nonneg (by omega)]; exact hs8
          have hr0 : (0 : Int) ≤ (r : Int) := by omega
          have hr4 : (r : Int) < (ls : Int) := by omega
          have hls0 : (0 : Int) < (ls : Int) := by omega
          have hfin : (8 : Int) + 8 * (s8 : Int) = (n : Int) := by omega
          have HFIN := Lib.hid hfin
          clear hn hnn hr3 hsw hby hsn hnr hfin
          go_wp2_with fail
          go_meet
          case rel => exact ⟨by rw [← HFIN.out], rfl⟩
      case rest =>
        obtain ⟨rfl, hwc⟩ := hcut
        obtain ⟨L, hL1, hL2, hL3, hL4⟩ := HX.out.2.2
        have HX1 := Lib.hid HX.out.1
        have HX2 := Lib.hid HX.out.2.1
        subst hwc
        obtain ⟨w3, hw3⟩ : ∃ w3 : World, w3 = wc := ⟨_, rfl⟩
        have H1 := Lib.hid hL1
        have H2 := Lib.hid hL2
        have H3 := Lib.hid hL3
        have H4 := Lib.hid hL4
        rw [← hw3] at H2 H4 ⊢
        clear HX hL1 hL2 hL3 hL4 hw3
        have HPW := Lib.hid (HPY.out.below H4.out)
        have hok := HY.out
        have f1 := HPW.out.has hok
        have f2 := HPW.out.rd hok
        go_upto_region 9 with fail
        go_cut [11] (fun s11 wx => ∃ g, s11 = .pointer (some ⟨g, 0, none⟩) ∧ Hid (BoxU w3 w3 (y, u) g wx))
        case first =>
          go_wp2_with fail
          go_meet
          case rel => exact ⟨_, rfl, boxU_new w3 w3 (y, u) hok (Below.refl _ _) rfl⟩
        case rest =>
          obtain ⟨g, rfl, HBX⟩ := hcut
          obtain ⟨w4, rfl⟩ : ∃ w4 : World, w4 = wc := ⟨_, rfl⟩
          clear f1 f2
          obtain ⟨q6, q7, q8⟩ := HBX.out.1.cells hok
          simp only [Nat.zero_add] at q6 q7 q8
          have z6 := HBX.out.2.1 36
          have z7 := HBX.out.2.1 37
          have z8 := HBX.out.2.1 38
          obtain ⟨bb, bo, rfl, hby⟩ : ∃ bb bo, a = some ⟨bb, bo, none⟩ ∧ ∀ q x, b[q]? = some x → w0.cell? ⟨bb, bo + q, none⟩ = some (.int .u8 (x.toNat : Int)) := by
            rcases HAT.out with h | h
            · have : lb = 0 := by rw [HLB.out, h]; rfl
              omega
            · exact h
          have HBY := Lib.hid hby
          clear hby
          have HQ6 := Lib.hid (And.intro q6 (And.intro q7 q8))
          have HZ6 := Lib.hid (And.intro z6 (And.intro z7 z8))
          obtain ⟨hi, hhi⟩ : ∃ hi, hi = min (po + n) lb := ⟨_, rfl⟩
          have hmin : min ((po : Int) + (n : Int)) (lb : Int) = (hi : Int) := by omega
          have hsum : IntKind.i64.wrap ((po : Int) + (n : Int)) = (po : Int) + (n : Int) := by rw [IntKind.wrap_i64]; omega
          have hdif : IntKind.i64.wrap ((lb : Int) - (po : Int)) = (lb : Int) - (po : Int) := by rw [IntKind.wrap_i64]; omega
          have k1 : (0 : Int) ≤ (po : Int) := by omega
          have k2 : (po : Int) ≤ (hi : Int) := by omega
          have k3 : (hi : Int) ≤ (lb : Int) := by omega
          have k4 : ¬ (c = po) := by omega
          have k5 : po ≤ hi := by omega
          have k6 : hi ≤ lb := by omega
          have k7 : (hi : Int) ≤ (c : Int) := by omega
          have k8 : (lb : Int) ≤ (c : Int) := by omega
          obtain ⟨mo, hmo⟩ : ∃ mo, mo = decide (n < b.length - po) := ⟨_, rfl⟩
          have hmo2 : decide ((n : Int) < (lb : Int) - (po : Int)) = mo := by rw [hmo, ← HLB.out, decide_eq_decide]; omega
          have HBS : Hid (Bs w0 (.slice (some ⟨bb, bo + po, none⟩) (hi - po) (c - po)) ((b.drop po).take n)) := Lib.hid (cut_bs HBY.out k5 (by rw [← HLB.out]; exact hhi) (by omega) (by omega))
          have HMO := Lib.hid hmo
          clear hmo hhi q6 q7 q8 z6 z7 z8 hn
          go_upto_region 10 with fail
          go_cut [] (fun wx => Hid (∃ v, v.oneCell' = true ∧ Bs w0 v ((b.drop po).take n) ∧ PtAt wx g 0 ⟨y.nm, (po : Int), mo, (b.drop po).take n⟩ v ∧ Below w3.heap.size w3 wx))
          case first =>
            have b1 : ((n : Int) < (lb : Int) - (po : Int)) ↔ mo = true := by rw [← hmo2]; simp
            rcases mo with _ | _
            · have b2 : ¬ ((n : Int) < (lb : Int) - (po : Int)) := by simpa using b1
              clear b1 hmo2
              refine wp_region_held_drew (S := fun w' => SC w') (by kernel_rfl) (⟨trivial, trivial⟩) (fun hHeld => ?_)
              refine' wpAnyH_take (i := 0) (v := _) rfl (by kernel_rfl) (by kernel_rfl) (by kernel_rfl) (fun _ _ _ h => h) (Or.inl ⟨by rfl, ?hy1⟩) hHeld ?rest1
              case hy1 => (intro w' hS; obtain ⟨s1, s2⟩ := hS; (try simp only [List.getElem_toArray, List.getElem_cons_zero, List.getElem_cons_succ]); go_simp; try with_reducible rfl)
              try simp only [List.getElem_toArray, List.getElem_cons_zero, List.getElem_cons_succ, Act.put, List.setIfInBounds_toArray, List.set_cons_zero, List.set_cons_succ]
              refine' wpAnyH_take (i := 1) (v := _) rfl (by kernel_rfl) (by kernel_rfl) (by kernel_rfl) (fun _ _ _ h => h) (Or.inl ⟨by rfl, ?hy2⟩) hHeld ?rest2
              case hy2 => (intro w' hS; obtain ⟨s1, s2⟩ := hS; (try simp only [List.getElem_toArray, List.getElem_cons_zero, List.getElem_cons_succ]); go_simp; try with_reducible rfl)
              try simp only [List.getElem_toArray, List.getElem_cons_zero, List.getElem_cons_succ, Act.put, List.setIfInBounds_toArray, List.set_cons_zero, List.set_cons_succ]
              refine' wpAnyH_take (i := 2) (v := _) rfl (by kernel_rfl) (by kernel_rfl) (by kernel_rfl) (fun _ _ _ h => h) (Or.inl ⟨by rfl, ?hy3⟩) hHeld ?rest3
              case hy3 => (intro w' hS; obtain ⟨s1, s2⟩ := hS; (try simp only [List.getElem_toArray, List.getElem_cons_zero, List.getElem_cons_succ]); go_simp; try with_reducible rfl)
              try simp only [List.getElem_toArray, List.getElem_cons_zero, List.getElem_cons_succ, Act.put, List.setIfInBounds_toArray, List.set_cons_zero, List.set_cons_succ]
              refine' wpAnyH_take (i := 3) (v := _) rfl (by kernel_rfl) (by kernel_rfl) (by kernel_rfl) (fun _ _ _ h => h) (Or.inl ⟨by rfl, ?hy4⟩) hHeld ?rest4
              case hy4 => (intro w' hS; obtain ⟨s1, s2⟩ := hS; (try simp only [List.getElem_toArray, List.getElem_cons_zero, List.getElem_cons_succ]); go_simp; try with_reducible rfl)
              try simp only [List.getElem_toArray, List.getElem_cons_zero, List.getElem_cons_succ, Act.put, List.setIfInBounds_toArray, List.set_cons_zero, List.set_cons_succ]
              refine' wpAnyH_take (i := 4) (v := _) rfl (by kernel_rfl) (by kernel_rfl) (by kernel_rfl) (fun _ _ _ h => h) (Or.inl ⟨by rfl, ?hy5⟩) hHeld ?rest5
              case hy5 => (intro w' hS; obtain ⟨s1, s2⟩ := hS; (try simp only [List.getElem_toArray, List.getElem_cons_zero, List.getElem_cons_succ]); go_simp; try with_reducible rfl)
              try simp only [List.getElem_toArray, List.getElem_cons_zero, List.getElem_cons_succ, Act.put, List.setIfInBounds_toArray, List.set_cons_zero, List.set_cons_succ]
              refine' wpAnyH_take (i := 5) (v := _) rfl (by kernel_rfl) (by kernel_rfl) (by kernel_rfl) (fun _ _ _ h => h) (Or.inl ⟨by rfl, ?hy6⟩) hHeld ?rest6
              case hy6 => (intro w' hS; obtain ⟨s1, s2⟩ := hS; (try simp only [List.getElem_toArray, List.getElem_cons_zero, List.getElem_cons_succ]); go_simp; try with_reducible rfl)
              try simp only [List.getElem_toArray, List.getElem_cons_zero, List.getElem_cons_succ, Act.put, List.setIfInBounds_toArray, List.set_cons_zero, List.set_cons_succ]
              refine' wpAnyH_take (i := 6) (v := _) rfl (by kernel_rfl) (by kernel_rfl) (by kernel_rfl) (fun _ _ _ h => h) (Or.inl ⟨by rfl, ?hy7⟩) hHeld ?rest7
              case hy7 => (intro w' hS; obtain ⟨s1, s2⟩ := hS; (try simp only [List.getElem_toArray, List.getElem_cons_zero, List.getElem_cons_succ]); go_simp; try with_reducible rfl)
              try simp only [List.getElem_toArray, List.getElem_cons_zero, List.getElem_cons_succ, Act.put, List.setIfInBounds_toArray, List.set_cons_zero, List.set_cons_succ]
              refine' wpAnyH_take (i := 7) (v := _) rfl (by kernel_rfl) (by kernel_rfl) (by kernel_rfl) (fun _ _ _ h => h) (Or.inl ⟨by rfl, ?hy8⟩) hHeld ?rest8
              case hy8 => (intro w' hS; obtain ⟨s1, s2⟩ := hS; (try simp only [List.getElem_toArray, List.getElem_cons_zero, List.getElem_cons_succ]); go_simp; try with_reducible rfl)
              try simp only [List.getElem_toArray, List.getElem_cons_zero, List.getElem_cons_succ, Act.put, List.setIfInBounds_toArray, List.set_cons_zero, List.set_cons_succ]
              refine' wpAnyH_take (i := 8) (v := _) rfl (by kernel_rfl) (by kernel_rfl) (by kernel_rfl) (fun _ _ _ h => h) (Or.inl ⟨by rfl, ?hy9⟩) hHeld ?rest9
              case hy9 => (intro w' hS; obtain ⟨s1, s2⟩ := hS; (try simp only [List.getElem_toArray, List.getElem_cons_zero, List.getElem_cons_succ]); go_simp; try with_reducible rfl)
              try simp only [List.getElem_toArray, List.getElem_cons_zero, List.getElem_cons_succ, Act.put, List.setIfInBounds_toArray, List.set_cons_zero, List.set_cons_succ]
              refine' wpAnyH_take (i := 9) (v := _) rfl (by kernel_rfl) (by kernel_rfl) (by kernel_rfl) (fun _ _ _ h => h) (Or.inl ⟨by rfl, ?hy10⟩) hHeld ?rest10
              case hy10 => (intro w' hS; obtain ⟨s1, s2⟩ := hS; (try simp only [List.getElem_toArray, List.getElem_cons_zero, List.getElem_cons_succ]); go_simp; try with_reducible rfl)
              try simp only [List.getElem_toArray, List.getElem_cons_zero, List.getElem_cons_succ, Act.put, List.setIfInBounds_toArray, List.set_cons_zero, List.set_cons_succ]
              refine' wpAnyH_take (i := 10) (v := _) rfl (by kernel_rfl) (by kernel_rfl) (by kernel_rfl) (fun _ _ _ h => h) (Or.inl ⟨by rfl, ?hy11⟩) hHeld ?rest11
              case hy11 => (intro w' hS; obtain ⟨s1, s2⟩ := hS; (try simp only [List.getElem_toArray, List.getElem_cons_zero, List.getElem_cons_succ]); go_simp; try with_reducible rfl)
              try simp only [List.getElem_toArray, List.getElem_cons_zero, List.getElem_cons_succ, Act.put, List.setIfInBounds_toArray, List.set_cons_zero, List.set_cons_succ]
              refine' wpAnyH_take (i := 11) (v := _) rfl (by kernel_rfl) (by kernel_rfl) (by kernel_rfl) (fun _ _ _ h => h) (Or.inl ⟨by rfl, ?hy12⟩) hHeld ?rest12
              case hy12 => (intro w' hS; obtain ⟨s1, s2⟩ := hS; (try simp only [List.getElem_toArray, List.getElem_cons_zero, List.getElem_cons_succ]); go_simp; try with_reducible rfl)
              try simp only [List.getElem_toArray, List.getElem_cons_zero, List.getElem_cons_succ, Act.put, List.setIfInBounds_toArray, List.set_cons_zero, List.set_cons_succ]
              refine' wpAnyH_take (i := 12) (v := _) rfl (by kernel_rfl) (by kernel_rfl) (by kernel_rfl) (fun _ _ _ h => h) (Or.inl ⟨by rfl, ?hy13⟩) hHeld ?rest13
              case hy13 => (intro w' hS; obtain ⟨s1, s2⟩ := hS; (try simp only [List.getElem_toArray, List.getElem_cons_zero, List.getElem_cons_succ]); go_simp; try with_reducible rfl)
              try simp only [List.getElem_toArray, List.getElem_cons_zero, List.getElem_cons_succ, Act.put, List.setIfInBounds_toArray, List.set_cons_zero, List.set_cons_succ]
              refine' wpAnyH_take (i := 13) (v := _) rfl (by kernel_rfl) (by kernel_rfl) (by kernel_rfl) (fun _ _ _ h => h) (Or.inl ⟨by rfl, ?hy14⟩) hHeld ?rest14
              case hy14 => (intro w' hS; obtain ⟨s1, s2⟩ := hS; (try simp only [List.getElem_toArray, List.getElem_cons_zero, List.getElem_cons_succ]); go_simp; try with_reducible rfl)
              try simp only [List.getElem_toArray, List.getElem_cons_zero, List.getElem_cons_succ, Act.put, List.setIfInBounds_toArray, List.set_cons_zero, List.set_cons_succ]
              refine' wpAnyH_take (i := 14) (v := _) rfl (by kernel_rfl) (by kernel_rfl) (by kernel_rfl) (fun _ _ _ h => h) (Or.inl ⟨by rfl, ?hy15⟩) hHeld ?rest15
              case hy15 => (intro w' hS; obtain ⟨s1, s2⟩ := hS; (try simp only [List.getElem_toArray, List.getElem_cons_zero, List.getElem_cons_succ]); go_simp; try with_reducible rfl)
              try simp only [List.getElem_toArray, List.getElem_cons_zero, List.getElem_cons_succ, Act.put, List.setIfInBounds_toArray, List.set_cons_zero, List.set_cons_succ]
              refine' wpAnyH_take (i := 15) (v := _) rfl (by kernel_rfl) (by kernel_rfl) (by kernel_rfl) (fun _ _ _ h => h) (Or.inl ⟨by rfl, ?hy16⟩) hHeld ?rest16
              case hy16 => (intro w' hS; obtain ⟨s1, s2⟩ := hS; (try simp only [List.getElem_toArray, List.getElem_cons_zero, List.getElem_cons_succ]); go_simp; try with_reducible rfl)
              try simp only [List.getElem_toArray, List.getElem_cons_zero, List.getElem_cons_succ, Act.put, List.setIfInBounds_toArray, List.set_cons_zero, List.set_cons_succ]
              refine' wpAnyH_take (i := 16) (v := _) rfl (by kernel_rfl) (by kernel_rfl) (by kernel_rfl) (fun _ _ _ h => h) (Or.inl ⟨by rfl, ?hy17⟩) hHeld ?rest17
              case hy17 => (intro w' hS; obtain ⟨s1, s2⟩ := hS; (try simp only [List.getElem_toArray, List.getElem_cons_zero, List.getElem_cons_succ]); go_simp; try with_reducible rfl)
              try simp only [List.getElem_toArray, List.getElem_cons_zero, List.getElem_cons_succ, Act.put, List.setIfInBounds_toArray, List.set_cons_zero, List.set_cons_succ]
              refine wpAnyH_ready (rs := [17]) (by kernel_rfl) (by simp) ?_
              refine (AllReadyH.cons rfl (fun K hK => ?_) AllReadyH.nil)
              obtain ⟨s1, s2⟩ := hHeld
              have q6 := HQ6.out.1
              have z6 := HZ6.out.1
              go_simp
              clear s1 s2
              go_wp2_with fail
              refine hK.out _ _ (⟨trivial, trivial⟩) (fun hHeld => ?_)
              clear hK K
              try simp only [List.getElem_toArray, List.getElem_cons_zero, List.getElem_cons_succ, Act.put, List.setIfInBounds_toArray, List.set_cons_zero, List.set_cons_succ]
              refine' wpAnyH_take (i := 18) (v := _) rfl (by kernel_rfl) (by kernel_rfl) (by kernel_rfl) (fun _ _ _ h => h) (Or.inl ⟨by rfl, ?hy19⟩) hHeld ?rest19
              case hy19 => (intro w' hS; obtain ⟨s1, s2⟩ := hS; (try simp only [List.getElem_toArray, List.getElem_cons_zero, List.getElem_cons_succ]); go_simp; try with_reducible rfl)
              try simp only [List.getElem_toArray, List.getElem_cons_zero, List.getElem_cons_succ, Act.put, List.setIfInBounds_toArray, List.set_cons_zero, List.set_cons_succ]
              refine wpAnyH_ready (rs := [19]) (by kernel_rfl) (by simp) ?_
              refine (AllReadyH.cons rfl (fun K hK => ?_) AllReadyH.nil)
              obtain ⟨s1, s2⟩ := hHeld
              have q7 := HQ6.out.2.1
              have z7 := HZ6.out.2.1
              go_simp
              clear s1 s2
              go_wp2_with fail
              refine hK.out _ _ (⟨trivial, trivial⟩) (fun hHeld => ?_)
              clear hK K
              try simp only [List.getElem_toArray, List.getElem_cons_zero, List.getElem_cons_succ, Act.put, List.setIfInBounds_toArray, List.set_cons_zero, List.set_cons_succ]
              refine' wpAnyH_take (i := 20) (v := _) rfl (by kernel_rfl) (by kernel_rfl) (by kernel_rfl) (fun _ _ _ h => h) (Or.inl ⟨by rfl, ?hy21⟩) hHeld ?rest21
              case hy21 => (intro w' hS; obtain ⟨s1, s2⟩ := hS; (try simp only [List.getElem_toArray, List.getElem_cons_zero, List.getElem_cons_succ]); go_simp; try with_reducible rfl)
              try simp only [List.getElem_toArray, List.getElem_cons_zero, List.getElem_cons_succ, Act.put, List.setIfInBounds_toArray, List.set_cons_zero, List.set_cons_succ]
              refine wpAnyH_ready (rs := [21]) (by kernel_rfl) (by simp) ?_
              refine (AllReadyH.cons rfl (fun K hK => ?_) AllReadyH.nil)
              obtain ⟨s1, s2⟩ := hHeld
              have q8 := HQ6.out.2.2
              have z8 := HZ6.out.2.2
              go_simp
              clear s1 s2
              go_wp2_with fail
              refine hK.out _ _ (⟨trivial, trivial⟩) (fun hHeld => ?_)
              clear hK K
              try simp only [List.getElem_toArray, List.getElem_cons_zero, List.getElem_cons_succ, Act.put, List.setIfInBounds_toArray, List.set_cons_zero, List.set_cons_succ]
              refine wpAnyH_done (by kernel_rfl) ?_ _
              go_wp2_with fail
              go_meet
              case rel => exact Lib.hid ⟨_, rfl, HBS.out, (cut_box HBX.out hok (po : Int) false ((b.drop po).take n) (.slice (some ⟨bb, bo + po, none⟩) (hi - po) (c - po))).1, ((cut_box HBX.out hok (po : Int) false ((b.drop po).take n) (.slice (some ⟨bb, bo + po, none⟩) (hi - po) (c - po))).2).drew⟩
            · have b2 : (n : Int) < (lb : Int) - (po : Int) := by simpa using b1
              clear b1 hmo2
              refine wp_region_held_drew (S := fun w' => SC w') (by kernel_rfl) (⟨trivial, trivial⟩) (fun hHeld => ?_)
              refine' wpAnyH_take (i := 0) (v := _) rfl (by kernel_rfl) (by kernel_rfl) (by kernel_rfl) (fun _ _ _ h => h) (Or.inl ⟨by rfl, ?hy24⟩) hHeld ?rest24
              case hy24 => (intro w' hS; obtain ⟨s1, s2⟩ := hS; (try simp only [List.getElem_toArray, List.getElem_cons_zero, List.getElem_cons_succ]); go_simp; try with_reducible rfl)
              try simp only [List.getElem_toArray, List.getElem_cons_zero, List.getElem_cons_succ, Act.put, List.setIfInBounds_toArray, List.set_cons_zero, List.set_cons_succ]
              refine' wpAnyH_take (i := 1) (v := _) rfl (by kernel_rfl) (by kernel_rfl) (by kernel_rfl) (fun _ _ _ h => h) (Or.inl ⟨by rfl, ?hy25⟩) hHeld ?rest25
              case hy25 => (intro w' hS; obtain ⟨s1, s2⟩ := hS; (try simp only [List.getElem_toArray, List.getElem_cons_zero, List.getElem_cons_succ]); go_simp; try with_reducible rfl)
              try simp only [List.getElem_toArray, List.getElem_cons_zero, List.getElem_cons_succ, Act.put, List.setIfInBounds_toArray, List.set_cons_zero, List.set_cons_succ]
              refine' wpAnyH_take (i := 2) (v := _) rfl (by kernel_rfl) (by kernel_rfl) (by kernel_rfl) (fun _ _ _ h => h) (Or.inl ⟨by rfl, ?hy26⟩) hHeld ?rest26
              case hy26 => (intro w' hS; obtain ⟨s1, s2⟩ := hS; (try simp only [List.getElem_toArray, List.getElem_cons_zero, List.getElem_cons_succ]); go_simp; try with_reducible rfl)
              try simp only [List.getElem_toArray, List.getElem_cons_zero, List.getElem_cons_succ, Act.put, List.setIfInBounds_toArray, List.set_cons_zero, List.set_cons_succ]
              refine' wpAnyH_take (i := 3) (v := _) rfl (by kernel_rfl) (by kernel_rfl) (by kernel_rfl) (fun _ _ _ h => h) (Or.inl ⟨by rfl, ?hy27⟩) hHeld ?rest27
              case hy27 => (intro w' hS; obtain ⟨s1, s2⟩ := hS; (try simp only [List.getElem_toArray, List.getElem_cons_zero, List.getElem_cons_succ]); go_simp; try with_reducible rfl)
              try simp only [List.getElem_toArray, List.getElem_cons_zero, List.getElem_cons_succ, Act.put, List.setIfInBounds_toArray, List.set_cons_zero, List.set_cons_succ]
              refine' wpAnyH_take (i := 4) (v := _) rfl (by kernel_rfl) (by kernel_rfl) (by kernel_rfl) (fun _ _ _ h => h) (Or.inl ⟨by rfl, ?hy28⟩) hHeld ?rest28
              case hy28 => (intro w' hS; obtain ⟨s1, s2⟩ := hS; (try simp only [List.getElem_toArray, List.getElem_cons_zero, List.getElem_cons_succ]); go_simp; try with_reducible rfl)
              try simp only [List.getElem_toArray, List.getElem_cons_zero, List.getElem_cons_succ, Act.put, List.setIfInBounds_toArray, List.set_cons_zero, List.set_cons_succ]
              refine' wpAnyH_take (i := 5) (v := _) rfl (by kernel_rfl) (by kernel_rfl) (by kernel_rfl) (fun _ _ _ h => h) (Or.inl ⟨by rfl, ?hy29⟩) hHeld ?rest29
              case hy29 => (intro w' hS; obtain ⟨s1, s2⟩ := hS; (try simp only [List.getElem_toArray, List.getElem_cons_zero, List.getElem_cons_succ]); go_simp; try with_reducible rfl)
              try simp only [List.getElem_toArray, List.getElem_cons_zero, List.getElem_cons_succ, Act.put, List.setIfInBounds_toArray, List.set_cons_zero, List.set_cons_succ]
              refine' wpAnyH_take (i := 6) (v := _) rfl (by kernel_rfl) (by kernel_rfl) (by kernel_rfl) (fun _ _ _ h => h) (Or.inl ⟨by rfl, ?hy30⟩) hHeld ?rest30
              case hy30 => (intro w' hS; obtain ⟨s1, s2⟩ := hS; (try simp only [List.getElem_toArray, List.getElem_cons_zero, List.getElem_cons_succ]); go_simp; try with_reducible rfl)
              try simp only [List.getElem_toArray, List.getElem_cons_zero, List.getElem_cons_succ, Act.put, List.setIfInBounds_toArray, List.set_cons_zero, List.set_cons_succ]
              refine' wpAnyH_take (i := 7) (v := _) rfl (by kernel_rfl) (by kernel_rfl) (by kernel_rfl) (fun _ _ _ h => h) (Or.inl ⟨by rfl, ?hy31⟩) hHeld ?rest31
              case hy31 => (intro w' hS; obtain ⟨s1, s2⟩ := hS; (try simp only [List.getElem_toArray, List.getElem_cons_zero, List.getElem_cons_succ]); go_simp; try with_reducible rfl)
              try simp only [List.getElem_toArray, List.getElem_cons_zero, List.getElem_cons_succ, Act.put, List.setIfInBounds_toArray, List.set_cons_zero, List.set_cons_succ]
              refine' wpAnyH_take (i := 8) (v := _) rfl (by kernel_rfl) (by kernel_rfl) (by kernel_rfl) (fun _ _ _ h => h) (Or.inl ⟨by rfl, ?hy32⟩) hHeld ?rest32
              case hy32 => (intro w' hS; obtain ⟨s1, s2⟩ := hS; (try simp only [List.getElem_toArray, List.getElem_cons_zero, List.getElem_cons_succ]); go_simp; try with_reducible rfl)
              try simp only [List.getElem_toArray, List.getElem_cons_zero, List.getElem_cons_succ, Act.put, List.setIfInBounds_toArray, List.set_cons_zero, List.set_cons_succ]
              refine' wpAnyH_take (i := 9) (v := _) rfl (by kernel_rfl) (by kernel_rfl) (by kernel_rfl) (fun _ _ _ h => h) (Or.inl ⟨by rfl, ?hy33⟩) hHeld ?rest33
              case hy33 => (intro w' hS; obtain ⟨s1, s2⟩ := hS; (try simp only [List.getElem_toArray, List.getElem_cons_zero, List.getElem_cons_succ]); go_simp; try with_reducible rfl)
              try simp only [List.getElem_toArray, List.getElem_cons_zero, List.getElem_cons_succ, Act.put, List.setIfInBounds_toArray, List.set_cons_zero, List.set_cons_succ]
              refine' wpAnyH_take (i := 10) (v := _) rfl (by kernel_rfl) (by kernel_rfl) (by kernel_rfl) (fun _ _ _ h => h) (Or.inl ⟨by rfl, ?hy34⟩) hHeld ?rest34
              case hy34 => (intro w' hS; obtain ⟨s1, s2⟩ := hS; (try simp only [List.getElem_toArray, List.getElem_cons_zero, List.getElem_cons_succ]); go_simp; try with_reducible rfl)
              try simp only [List.getElem_toArray, List.getElem_cons_zero, List.getElem_cons_succ, Act.put, List.setIfInBounds_toArray, List.set_cons_zero, List.set_cons_succ]
              refine' wpAnyH_take (i := 11) (v := _) rfl (by kernel_rfl) (by kernel_rfl) (by kernel_rfl) (fun _ _ _ h => h) (Or.inl ⟨by rfl, ?hy35⟩) hHeld ?rest35
              case hy35 => (intro w' hS; obtain ⟨s1, s2⟩ := hS; (try simp only [List.getElem_toArray, List.getElem_cons_zero, List.getElem_cons_succ]); go_simp; try with_reducible rfl)
              try simp only [List.getElem_toArray, List.getElem_cons_zero, List.getElem_cons_succ, Act.put, List.setIfInBounds_toArray, List.set_cons_zero, List.set_cons_succ]
              refine' wpAnyH_take (i := 12) (v := _) rfl (by kernel_rfl) (by kernel_rfl) (by kernel_rfl) (fun _ _ _ h => h) (Or.inl ⟨by rfl, ?hy36⟩) hHeld ?rest36
              case hy36 => (intro w' hS; obtain ⟨s1, s2⟩ := hS; (try simp only [List.getElem_toArray, List.getElem_cons_zero, List.getElem_cons_succ]); go_simp; try with_reducible rfl)
              try simp only [List.getElem_toArray, List.getElem_cons_zero, List.getElem_cons_succ, Act.put, List.setIfInBounds_toArray, List.set_cons_zero, List.set_cons_succ]
              refine' wpAnyH_take (i := 13) (v := _) rfl (by kernel_rfl) (by kernel_rfl) (by kernel_rfl) (fun _ _ _ h => h) (Or.inl ⟨by rfl, ?hy37⟩) hHeld ?rest37
              case hy37 => (intro w' hS; obtain ⟨s1, s2⟩ := hS; (try simp only [List.getElem_toArray, List.getElem_cons_zero, List.getElem_cons_succ]); go_simp; try with_reducible rfl)
              try simp only [List.getElem_toArray, List.getElem_cons_zero, List.getElem_cons_succ, Act.put, List.setIfInBounds_toArray, List.set_cons_zero, List.set_cons_succ]
              refine' wpAnyH_take (i := 14) (v := _) rfl (by kernel_rfl) (by kernel_rfl) (by kernel_rfl) (fun _ _ _ h => h) (Or.inl ⟨by rfl, ?hy38⟩) hHeld ?rest38
              case hy38 => (intro w' hS; obtain ⟨s1, s2⟩ := hS; (try simp only [List.getElem_toArray, List.getElem_cons_zero, List.getElem_cons_succ]); go_simp; try with_reducible rfl)
              try simp only [List.getElem_toArray, List.getElem_cons_zero, List.getElem_cons_succ, Act.put, List.setIfInBounds_toArray, List.set_cons_zero, List.set_cons_succ]
              refine' wpAnyH_take (i := 15) (v := _) rfl (by kernel_rfl) (by kernel_rfl) (by kernel_rfl) (fun _ _ _ h => h) (Or.inl ⟨by rfl, ?hy39⟩) hHeld ?rest39
              case hy39 => (intro w' hS; obtain ⟨s1, s2⟩ := hS; (try simp only [List.getElem_toArray, List.getElem_cons_zero, List.getElem_cons_succ]); go_simp; try with_reducible rfl)
              try simp only [List.getElem_toArray, List.getElem_cons_zero, List.getElem_cons_succ, Act.put, List.setIfInBounds_toArray, List.set_cons_zero, List.set_cons_succ]
              refine' wpAnyH_take (i := 16) (v := _) rfl (by kernel_rfl) (by kernel_rfl) (by kernel_rfl) (fun _ _ _ h => h) (Or.inl ⟨by rfl, ?hy40⟩) hHeld ?rest40
              case hy40 => (intro w' hS; obtain ⟨s1, s2⟩ := hS; (try simp only [List.getElem_toArray, List.getElem_cons_zero, List.getElem_cons_succ]); go_simp; try with_reducible rfl)
              try simp only [List.getElem_toArray, List.getElem_cons_zero, List.getElem_cons_succ, Act.put, List.setIfInBounds_toArray, List.set_cons_zero, List.set_cons_succ]
              refine wpAnyH_ready (rs := [17]) (by kernel_rfl) (by simp) ?_
              refine (AllReadyH.cons rfl (fun K hK => ?_) AllReadyH.nil)
              obtain ⟨s1, s2⟩ := hHeld
              have q6 := HQ6.out.1
              have z6 := HZ6.out.1
              go_simp
              clear s1 s2
              go_wp2_with fail
              refine hK.out _ _ (⟨trivial, trivial⟩) (fun hHeld => ?_)
              clear hK K
              try simp only [List.getElem_toArray, List.getElem_cons_zero, List.getElem_cons_succ, Act.put, List.setIfInBounds_toArray, List.set_cons_zero, List.set_cons_succ]
              refine' wpAnyH_take (i := 18) (v := _) rfl (by kernel_rfl) (by kernel_rfl) (by kernel_rfl) (fun _ _ _ h => h) (Or.inl ⟨by rfl, ?hy42⟩) hHeld ?rest42
              case hy42 => (intro w' hS; obtain ⟨s1, s2⟩ := hS; (try simp only [List.getElem_toArray, List.getElem_cons_zero, List.getElem_cons_succ]); go_simp; try with_reducible rfl)
              try simp only [List.getElem_toArray, List.getElem_cons_zero, List.getElem_cons_succ, Act.put, List.setIfInBounds_toArray, List.set_cons_zero, List.set_cons_succ]
              refine wpAnyH_ready (rs := [19]) (by kernel_rfl) (by simp) ?_
              refine (AllReadyH.cons rfl (fun K hK => ?_) AllReadyH.nil)
              obtain ⟨s1, s2⟩ := hHeld
              have q7 := HQ6.out.2.1
              have z7 := HZ6.out.2.1
              go_simp
              clear s1 s2
              go_wp2_with fail
              refine hK.out _ _ (⟨trivial, trivial⟩) (fun hHeld => ?_)
              clear hK K
              try simp only [List.getElem_toArray, List.getElem_cons_zero, List.getElem_cons_succ, Act.put, List.setIfInBounds_toArray, List.set_cons_zero, List.set_cons_succ]
              refine' wpAnyH_take (i := 20) (v := _) rfl (by kernel_rfl) (by kernel_rfl) (by kernel_rfl) (fun _ _ _ h => h) (Or.inl ⟨by rfl, ?hy44⟩) hHeld ?rest44
              case hy44 => (intro w' hS; obtain ⟨s1, s2⟩ := hS; (try simp only [List.getElem_toArray, List.getElem_cons_zero, List.getElem_cons_succ]); go_simp; try with_reducible rfl)
              try simp only [List.getElem_toArray, List.getElem_cons_zero, List.getElem_cons_succ, Act.put, List.setIfInBounds_toArray, List.set_cons_zero, List.set_cons_succ]
              refine wpAnyH_ready (rs := [21]) (by kernel_rfl) (by simp) ?_
              refine (AllReadyH.cons rfl (fun K hK => ?_) AllReadyH.nil)
              obtain ⟨s1, s2⟩ := hHeld
              have q8 := HQ6.out.2.2
              have z8 := HZ6.out.2.2
              go_simp
              clear s1 s2
              go_wp2_with fail
              refine hK.out _ _ (⟨trivial, trivial⟩) (fun hHeld => ?_)
              clear hK K
              try simp only [List.getElem_toArray, List.getElem_cons_zero, List.getElem_cons_succ, Act.put, List.setIfInBounds_toArray, List.set_cons_zero, List.set_cons_succ]
              refine wpAnyH_done (by kernel_rfl) ?_ _
              go_wp2_with fail
              go_meet
              case rel => exact Lib.hid ⟨_, rfl, HBS.out, (cut_box HBX.out hok (po : Int) true ((b.drop po).take n) (.slice (some ⟨bb, bo + po, none⟩) (hi - po) (c - po))).1, ((cut_box HBX.out hok (po : Int) true ((b.drop po).take n) (.slice (some ⟨bb, bo + po, none⟩) (hi - po) (c - po))).2).drew⟩
          case rest =>
            obtain ⟨v, hv1, hv2, hv3, hv4⟩ := hcut.out
            obtain ⟨w5, rfl⟩ : ∃ w5 : World, w5 = wc := ⟨_, rfl⟩
            have HPT : Hid (PtAt w5 g 0 (cutP y b n po) v) := Lib.hid (by rw [HMO.out] at hv3; exact hv3)
            have HV2 := Lib.hid hv2
            have HV4 := Lib.hid hv4
            have hok2 : (cutP y b n po).nm.ok := HY.out
            have f1 := HPT.out.has hok2
            have f2 := HPT.out.rd hok2
            have HR5 := Lib.hid (H2.out.below HV4.out)
            have HRA := Lib.hid (HR5.out.own.alloc (.cells (partA (cutP y b n po) v) 90))
            have HBB := Lib.hid (H4.out.then HV4.out)
            obtain ⟨i90, z90, hi90, hz90, hsize, hby, hzs⟩ := info90z
            have HNW : Hid (∀ j u, (partL (cutP y b n po) v)[j]? = some u → (w5.alloc (.cells (partA (cutP y b n po) v) 90)).cell? ((⟨w5.heap.size, 0, none⟩ : Addr).add j) = some u) := Lib.hid (fun j u hu => by rw [Addr.add_lit]; exact ptAt_new w5 (cutP y b n po) v 90 j u hu)
            have HN1 : Hid (∀ u ∈ partL (cutP y b n po) v, u.oneCell' = true) := Lib.hid (fun u hu => by
              have := partA_one (p := cutP y b n po) hv1
              exact Array.all_eq_true_iff_forall_mem.1 this u (by simpa [partA] using hu))
            have HNL : Hid ((partL (cutP y b n po) v).length = 39) := Lib.hid (partL_len hok2 v)
            clear hv2 hv3 hv4 hmin hsum hdif k1 k2 k3 k4 k7 k8 hmo2 hcut
            go_wp2_with (at_builtin; go_loud (refine wpList_append_own_at _ rfl (.tmp 52) (.tmp 54) 83 rfl w1.heap.size 90 i90 z90 39 80 Try.underlying83 hi90 hz90 hsize hby hzs (by omega) _ k (ptRow L) rfl HRA.out ⟨w5.heap.size, 0, none⟩ 1 1 (partL (cutP y b n po) v) rfl (by rw [HNL.out]) HNW.out HN1.out (by unfold maxLen; omega) (by omega) (by have := HBB.out.size; simp; omega) ?_; intro v' w' h2 h3 h4 h5))
            have HO2 := Lib.hid h2
            have HGR := Lib.hid h3
            clear h2 h3 h4 h5
            go_wp2_with fail
            go_roundw
            case rel => exact ⟨k + 1, po + n, by go_num, by go_num, by omega, by omega, by rw [HX1.out, HN.out]; rfl, fun j hj => by
              rcases Nat.lt_or_ge j k with h | h
              · exact HX2.out j h
              · have : j = k := by omega
                rw [this, ← HX1.out, ← HLB.out]; exact hlt, cutM_step H1.out H2.out H3.out HY.out ((HBB.out.alloc HBB.out.size _).grown HGR.out (by have := HBB.out.size; simp; omega) (fun q hq => (World.ownsRow.lt HRA.out q hq).1)) hv1 (by rw [← HX1.out, ← HN.out]; exact HV2.out) (by rw [← HX1.out, ← HN.out]; exact HO2.out)⟩
            case measure => simp [intOf]; omega
    · obtain ⟨L, hL1, hL2, hL3, hL4⟩ := HX.out.2.2
      have HE : Hid (CutRet w0 w y b sizes (.returned u7) wr) := Lib.hid ⟨_, k, rfl, by omega, HX.out.2.1, by rw [← HX.out.1, ← HLB.out]; omega, L, hL1, ⟨ownsRow_base hL2.own (fun q hq => Nat.le_trans HP.out.2.1.size (World.ownsRow.lt hL2.own q hq).1), hL2.len, hL2.ok⟩, hL3, HP.out.2.1.then hL4⟩
      clear hL1 hL2 hL3 hL4 HX
      go_wp2_with fail
      rw [HQ.out]
      exact HE.out
end Go.Proofs.Ytnckmaieghlpmaa
