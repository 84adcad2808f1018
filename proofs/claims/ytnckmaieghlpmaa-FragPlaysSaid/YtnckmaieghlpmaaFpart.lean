/-
  The closure of FragOldest that makes a part.
-/
import Derived.Test.YtnckmaieghlpmaaFold
import Derived.Deep.DeepCutAuto
import Derived.Deep.Upon
namespace Go.Proofs.Ytnckmaieghlpmaa
open Go.RowKit
set_option linter.unusedVariables false
set_option linter.unusedSimpArgs false
attribute [local go_sem ↓] fold_ld54 fold_st54 fold_ld90 fold_st90 fold_ld121 fold_st121 fold_ld124 fold_st124 Go.wp_at_zero Go.wp_at_succ
attribute [local go_sem] ld54_at st54_at ld90_at st90_pt ld121_at st121_nm ld124_at free_new1 bx36 bx37 bx38 bxhas bxrd

theorem rangeAt_set {w : World} {g : Nat} {cs : List Value} (h : w.rangeAt g 0 cs) (i : Nat) (u : Value) : (w.setCell ⟨g, i, none⟩ u).rangeAt g 0 (cs.set i u) := fun j v hv => by
  rw [Nat.zero_add]
  rw [List.getElem?_set] at hv
  split at hv
  · rename_i hij
    subst hij
    split at hv
    · rename_i hl
      cases hv
      have := h i _ (List.getElem?_eq_getElem hl)
      rw [Nat.zero_add] at this
      exact World.cell?_setCell_same _ _ _ this
    · cases hv
  · rename_i hij
    rw [World.cell?_setCell_other _ _ _ _ (by simp <;> omega)]
    have := h j v hv
    rwa [Nat.zero_add] at this
set_option maxRecDepth 100000 in
theorem partL_sets (y : PartD) (u : Value) (hy : y.nm.ok) (id : Nat) (pos : Int) (more : Bool) (bs : List UInt8) (v : Value) : ((((partL y u).set 35 (.int .u32 (id : Int))).set 36 (.int .i64 pos)).set 37 (.bool more)).set 38 v = partL ⟨nmI y id, pos, more, bs⟩ v := by
  obtain ⟨⟨s1, A1, s2, A2, p, i⟩, po, mo, bs'⟩ := y
  obtain ⟨h1, h2⟩ := hy
  obtain ⟨a0, a1, a2, a3, a4, a5, a6, a7, a8, a9, a10, a11, a12, a13, a14, a15, rfl⟩ := list16 A1 h1
  obtain ⟨b0, b1, b2, b3, b4, b5, b6, b7, b8, b9, b10, b11, b12, b13, b14, b15, rfl⟩ := list16 A2 h2
  rfl
set_option maxRecDepth 100000 in
theorem partL_sets3 (y : PartD) (u : Value) (hy : y.nm.ok) (pos : Int) (more : Bool) (bs : List UInt8) (v : Value) : (((partL y u).set 36 (.int .i64 pos)).set 37 (.bool more)).set 38 v = partL ⟨y.nm, pos, more, bs⟩ v := by
  obtain ⟨⟨s1, A1, s2, A2, p, i⟩, po, mo, bs'⟩ := y
  obtain ⟨h1, h2⟩ := hy
  obtain ⟨a0, a1, a2, a3, a4, a5, a6, a7, a8, a9, a10, a11, a12, a13, a14, a15, rfl⟩ := list16 A1 h1
  obtain ⟨b0, b1, b2, b3, b4, b5, b6, b7, b8, b9, b10, b11, b12, b13, b14, b15, rfl⟩ := list16 A2 h2
  rfl
/-- a part in a box, its bytes the call's own -/
structure OwB (wo : World) (p : PartD) (v : Value) (g : Nat) (wx : World) : Prop where
  pt : PtAt wx g 0 p v
  fz : ∀ j, wx.frozen? ⟨g, j, none⟩ = false
  own : Own wx wo.heap.size v p.bs
  g1 : wo.heap.size ≤ g ∧ g < wx.heap.size
  bel : Below wo.heap.size wo wx
def BoxU (wo wr : World) (x : PartD × Value) (g : Nat) (wx : World) : Prop := PtAt wx g 0 x.1 x.2 ∧ (∀ j, wx.frozen? ⟨g, j, none⟩ = false) ∧ wo.heap.size ≤ g ∧ g < wx.heap.size ∧ Below wo.heap.size wo wx
theorem boxU_new (wo wr : World) (x : PartD × Value) {Z : Array Value} (hn : x.1.nm.ok) (hb : Below wo.heap.size wo wr) (hZ : Z.size = 39) : BoxU wo wr x wr.heap.size ((wr.alloc (.cells Z 90)).setCells wr.heap.size 0 (partL x.1 x.2)) :=
  ⟨bx_at hn hZ, fun j => by rw [World.frozen?_setCells]; exact World.frozen?_alloc_new (w := wr) Z 90 j, hb.size, by rw [size_sets]; simp, hb.then bx_below⟩
theorem owB_first {wo wr wx : World} {y : PartD} {u : Value} {g : Nat} (h : BoxU wo wr (y, u) g wx) (hy : y.nm.ok) (id : Nat) :
    OwB wo (oP y id false) (.slice (some ⟨wx.heap.size, 0, none⟩) 8 8) g (((((wx.setCell ⟨g, 35, none⟩ (.int .u32 (id : Int))).setCell ⟨g, 36, none⟩ (.int .i64 0)).setCell ⟨g, 37, none⟩ (.bool true)).setCell ⟨g, 38, none⟩ (.slice (some ⟨wx.heap.size, 0, none⟩) 8 8)).alloc (.cells #[.int .u8 ((UInt8.ofNat id).toNat : Int), .int .u8 1, .int .u8 2, .int .u8 3, .int .u8 4, .int .u8 5, .int .u8 6, .int .u8 7] 5)) := by
  obtain ⟨h1, h2, h3, h4, h5⟩ := h
  obtain ⟨w4, hw4⟩ : ∃ w4, w4 = (((wx.setCell ⟨g, 35, none⟩ (.int .u32 (id : Int))).setCell ⟨g, 36, none⟩ (.int .i64 0)).setCell ⟨g, 37, none⟩ (.bool true)).setCell ⟨g, 38, none⟩ (.slice (some ⟨wx.heap.size, 0, none⟩) 8 8) := ⟨_, rfl⟩
  have hs : w4.heap.size = wx.heap.size := by rw [hw4]; simp
  have hb : Below wo.heap.size wo w4 := by
    rw [hw4]
    exact (((h5.setCell (p := ⟨g, 35, none⟩) h3 _).setCell (p := ⟨g, 36, none⟩) h3 _).setCell (p := ⟨g, 37, none⟩) h3 _).setCell (p := ⟨g, 38, none⟩) h3 _
  have hpt : PtAt w4 g 0 (oP y id false) (.slice (some ⟨wx.heap.size, 0, none⟩) 8 8) := by
    have := rangeAt_set (rangeAt_set (rangeAt_set (rangeAt_set h1 35 (.int .u32 (id : Int))) 36 (.int .i64 0)) 37 (.bool true)) 38 (.slice (some ⟨wx.heap.size, 0, none⟩) 8 8)
    rw [partL_sets y u hy id 0 true [UInt8.ofNat id, 1, 2, 3, 4, 5, 6, 7], ← hw4] at this
    exact this
  have hf : ∀ j, w4.frozen? ⟨g, j, none⟩ = false := fun j => by
    rw [hw4, World.frozen?_setCell, World.frozen?_setCell, World.frozen?_setCell, World.frozen?_setCell]; exact h2 j
  have hown := own_lit w4 [UInt8.ofNat id, 1, 2, 3, 4, 5, 6, 7] #[.int .u8 ((UInt8.ofNat id).toNat : Int), .int .u8 1, .int .u8 2, .int .u8 3, .int .u8 4, .int .u8 5, .int .u8 6, .int .u8 7] wo.heap.size rfl hb.size (by unfold maxLen; simp)
  rw [hs] at hown
  rw [← hw4]
  exact ⟨hpt.below (below_alloc w4 _), fun j => by rw [(below_alloc w4 _).frozen (p := ⟨g, j, none⟩) (by show g < w4.heap.size; omega)]; exact hf j, hown, ⟨h3, by simp; omega⟩, hb.then (below_alloc w4 _)⟩
theorem owB_last {wo wx : World} {y : PartD} {v : Value} {g id : Nat} (h : OwB wo (oP y id false) v g wx) (hy : (nmI y id).ok) :
    OwB wo (oP y id true) (.slice (some ⟨wx.heap.size, 0, none⟩) 1 1) g ((((wx.setCell ⟨g, 36, none⟩ (.int .i64 8)).setCell ⟨g, 37, none⟩ (.bool false)).setCell ⟨g, 38, none⟩ (.slice (some ⟨wx.heap.size, 0, none⟩) 1 1)).alloc (.cells #[.int .u8 9] 5)) := by
  have h3 := h.g1.1
  have h4 := h.g1.2
  obtain ⟨w4, hw4⟩ : ∃ w4, w4 = ((wx.setCell ⟨g, 36, none⟩ (.int .i64 8)).setCell ⟨g, 37, none⟩ (.bool false)).setCell ⟨g, 38, none⟩ (.slice (some ⟨wx.heap.size, 0, none⟩) 1 1) := ⟨_, rfl⟩
  have hs : w4.heap.size = wx.heap.size := by rw [hw4]; simp
  have hb : Below wo.heap.size wo w4 := by
    rw [hw4]
    exact ((h.bel.setCell (p := ⟨g, 36, none⟩) h3 _).setCell (p := ⟨g, 37, none⟩) h3 _).setCell (p := ⟨g, 38, none⟩) h3 _
  have hpt : PtAt w4 g 0 (oP y id true) (.slice (some ⟨wx.heap.size, 0, none⟩) 1 1) := by
    have := rangeAt_set (rangeAt_set (rangeAt_set h.pt 36 (.int .i64 8)) 37 (.bool false)) 38 (.slice (some ⟨wx.heap.size, 0, none⟩) 1 1)
    rw [partL_sets3 (oP y id false) v hy 8 false [9], ← hw4] at this
    exact this
  have hf : ∀ j, w4.frozen? ⟨g, j, none⟩ = false := fun j => by
    rw [hw4, World.frozen?_setCell, World.frozen?_setCell, World.frozen?_setCell]; exact h.fz j
  have hown := own_lit w4 [9] #[.int .u8 9] wo.heap.size rfl hb.size (by unfold maxLen; simp)
  rw [hs] at hown
  rw [← hw4]
  exact ⟨hpt.below (below_alloc w4 _), fun j => by rw [(below_alloc w4 _).frozen (p := ⟨g, j, none⟩) (by show g < w4.heap.size; omega)]; exact hf j, hown, ⟨h3, by simp; omega⟩, hb.then (below_alloc w4 _)⟩

def R1 (w : World) (g : Nat) (wx : World) : Prop := free wx g 0 39 = true ∧ Below w.heap.size w wx ∧ w.heap.size ≤ g ∧ g < wx.heap.size
theorem r1_new (w : World) {Z : Array Value} (hZ : Z.size = 39) : R1 w w.heap.size (w.alloc (.cells Z 90)) := ⟨by rw [free_new1, hZ]; rfl, below_alloc w _, Nat.le_refl _, by simp⟩
def PartRet (w : World) (p : PartD) (e : Ending) (w' : World) : Prop := ∃ v, e = .returned (.agg (partA p v)) ∧ Own w' w.heap.size v p.bs ∧ Below w.heap.size w w'
theorem ld_res {w : World} {g : Nat} {p : PartD} {v : Value} (hp : p.nm.ok) (h : free w g 0 39 = true) : (loadVar 90 ⟨g, 0, none⟩).run Try.prog (w.setCells g 0 (partL p v)) = .ok (.agg (partA p v)) (w.setCells g 0 (partL p v)) := by
  have hr : (w.setCells g 0 (partL p v)).rangeAt g 0 (partL p v) := World.rangeAt_setCells_same w g 0 _ (by rw [partL_len hp]; exact free_spec.1 h)
  have := run_loadVar_mid (P := Try.prog) _ g 0 90 (partL p v) _ hr Try.underlying90 rfl (by rw [partL_len hp]; exact info90s)
  exact this
theorem part_ret {w w1 wx : World} {p : PartD} {v : Value} {g gr : Nat} (h : OwB w1 p v g wx) (h1 : R1 w gr w1) : PartRet w p (.returned (.agg (partA p v))) (wx.setCells gr 0 (partL p v)) := by
  have hlt := h1.2.2.2
  refine ⟨v, rfl, Own.mono ?_ h1.2.1.size, below_sets h1.2.2.1 _ _ (h1.2.1.then h.bel)⟩
  exact ownsRow_keep h.own (fun k hk => World.heap_setCells_other wx gr 0 _ (World.ownsRow.lt h.own k hk).2 (by have := (World.ownsRow.lt h.own k hk).1; omega))
set_option maxRecDepth 100000 in
set_option maxHeartbeats 4000000 in
theorem opart_any (w : World) (gf : Nat) (y : PartD) (u : Value) (hy : y.nm.ok) (hu : u.oneCell' = true) (hg : PtAt w gf 0 y u) (id : Nat) (hid : id ≤ 255) (last : Bool) :
    Calls Try.prog 57 #[.int .i64 id, .bool last, .pointer (some ⟨gf, 0, none⟩)] w (PartRet w (oP y id last)) := by
  have HY := Lib.hid hy
  have HG := Lib.hid hg
  have e1 : IntKind.u32.wrap (id : Int) = (id : Int) := by rw [IntKind.wrap_u32]; omega
  have e2 : IntKind.u8.wrap (id : Int) = (((UInt8.ofNat id).toNat : Nat) : Int) := by rw [IntKind.wrap_u8]; simp
  obtain ⟨bv, hbv⟩ : ∃ b, b = ((UInt8.ofNat id).toNat : Int) := ⟨_, rfl⟩
  rw [← hbv] at e2
  have HBV := Lib.hid hbv
  obtain ⟨Q, hQ⟩ : ∃ Q, Q = PartRet w (oP y id last) := ⟨_, rfl⟩
  rw [← hQ]
  have HQ := Lib.hid hQ
  clear hQ hy hg hbv
  go_enter Try.func57, Try.ntmps57
  go_upto_region 0 with fail
  go_cut [5] (fun s5 wx => ∃ g, s5 = .pointer (some ⟨g, 0, none⟩) ∧ Hid (R1 w g wx))
  case first =>
    go_wp2_with fail
    go_meet
    case rel => exact ⟨_, rfl, r1_new w rfl⟩
  case rest =>
    obtain ⟨gr, rfl, H1⟩ := hcut
    obtain ⟨w1, rfl⟩ : ∃ w1 : World, w1 = wc := ⟨_, rfl⟩
    have HG1 := Lib.hid (HG.out.below H1.out.2.1)
    have hok := HY.out
    have f1 := HG1.out.has hok
    have f2 := HG1.out.rd hok
    go_upto_region 1 with fail
    go_cut [6] (fun s6 wx => ∃ g, s6 = .pointer (some ⟨g, 0, none⟩) ∧ Hid (BoxU w1 w1 (y, u) g wx ∧ free wx gr 0 39 = true))
    case first =>
      go_wp2_with fail
      go_meet
      case rel => exact ⟨_, rfl, boxU_new w1 w1 (y, u) hok (Below.refl _ _) rfl, free_setCells (free_alloc H1.out.1 _) _ _ _⟩
    case rest =>
      obtain ⟨g, rfl, H2⟩ := hcut
      obtain ⟨w2, rfl⟩ : ∃ w2 : World, w2 = wc := ⟨_, rfl⟩
      clear f1 f2
      have q5 := (H2.out.1.1.split hok).2.2.2
      obtain ⟨q6, q7, q8⟩ := H2.out.1.1.cells hok
      simp only [Nat.zero_add] at q6 q7 q8
      have z5 := H2.out.1.2.1 35
      have z6 := H2.out.1.2.1 36
      have z7 := H2.out.1.2.1 37
      have z8 := H2.out.1.2.1 38
      have hgl := H2.out.1.2.2.2.1
      go_upto_region 2 with fail
      go_cut [] (fun wx => Hid ((∃ v, OwB w1 (oP y id false) v g wx) ∧ free wx gr 0 39 = true))
      case first =>
        go_wp2_with fail
        go_meet
        case rel =>
          have hb := HBV.out
          subst hb
          exact Lib.hid ⟨⟨_, owB_first H2.out.1 hok id⟩, free_alloc (free_setCells (free_setCells (free_setCells (free_setCells H2.out.2 g 35 [_]) g 36 [_]) g 37 [_]) g 38 [_]) _⟩
      case rest =>
        obtain ⟨⟨v, H3⟩, hfr⟩ := hcut.out
        obtain ⟨w3, rfl⟩ : ∃ w3 : World, w3 = wc := ⟨_, rfl⟩
        have H3 := Lib.hid H3
        have HFR := Lib.hid hfr
        have hok2 : (oP y id false).nm.ok := HY.out
        have hok3 : (nmI y id).ok := HY.out
        clear q5 q6 q7 q8 z5 z6 z7 z8 hgl H2 hfr hcut
        rcases last with _ | _
        · have f1 := H3.out.pt.has hok2
          have f2 := H3.out.pt.rd hok2
          have hv1 : v.oneCell' = true := own_one H3.out.own
          have hfr := HFR.out
          have hne : g ≠ gr ∨ g = gr := by omega
          clear hne
          have HLD := Lib.hid (ld_res (v := v) hok2 hfr)
          go_wp2_with fail
          have hl := HLD.out
          rw [HQ.out]
          exact bodyPost_ret (v := .agg (partA (oP y id false) v)) (by simp [results, Try.results57, asAddr, hl]) rfl (part_ret H3.out H1.out)
        · have q6 := (H3.out.pt.cells hok2).1
          have q7 := (H3.out.pt.cells hok2).2.1
          have q8 := (H3.out.pt.cells hok2).2.2
          simp only [Nat.zero_add] at q6 q7 q8
          have z6 := H3.out.fz 36
          have z7 := H3.out.fz 37
          have z8 := H3.out.fz 38
          have hgl := H3.out.g1.2
          go_upto_region 4 with fail
          go_cut [] (fun wx => Hid ((∃ v, OwB w1 (oP y id true) v g wx) ∧ free wx gr 0 39 = true))
          case first =>
            go_wp2_with fail
            go_meet
            case rel => exact Lib.hid ⟨⟨_, owB_last H3.out hok3⟩, free_alloc (free_setCells (free_setCells (free_setCells HFR.out g 36 [_]) g 37 [_]) g 38 [_]) _⟩
          case rest =>
            obtain ⟨⟨v', H4⟩, hfr⟩ := hcut.out
            have H4 := Lib.hid H4
            have hok4 : (oP y id true).nm.ok := HY.out
            have f1 := H4.out.pt.has hok4
            have f2 := H4.out.pt.rd hok4
            have hv1 : v'.oneCell' = true := own_one H4.out.own
            have HLD := Lib.hid (ld_res (v := v') hok4 hfr)
            clear q6 q7 q8 z6 z7 z8 hgl hcut
            go_wp2_with fail
            have hl := HLD.out
            rw [HQ.out]
            exact bodyPost_ret (v := .agg (partA (oP y id true) v')) (by simp [results, Try.results57, asAddr, hl]) rfl (part_ret H4.out H1.out)
end Go.Proofs.Ytnckmaieghlpmaa
