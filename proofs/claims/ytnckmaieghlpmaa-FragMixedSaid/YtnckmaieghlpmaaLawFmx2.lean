/-
  The walk of the law FragMixed (printed by gen_fmx.py).
-/
import Derived.Test.YtnckmaieghlpmaaPmxe
import Derived.Test.YtnckmaieghlpmaaMapp
import Derived.Test.YtnckmaieghlpmaaFmix2
import Derived.Test.YtnckmaieghlpmaaLawFwh
import Derived.Deep.CutBlock
namespace Go.Proofs.Ytnckmaieghlpmaa
open Go.RowKit
set_option linter.unusedVariables false
set_option linter.unusedSimpArgs false
attribute [local go_sem ↓] fold_ld54 fold_st54 fold_ld90 fold_st90 fold_ld121 fold_st121 fold_ld124 fold_st124 Go.wp_at_zero Go.wp_at_succ
attribute [local go_sem] ld54_at st54_at ld90_at st90_pt ld121_at st121_nm ld124_at free_new1 bx36 bx37 bx38 bxhas bxrd

/-- the boxes of 'of' and of 'other' hold what they held -/
def SX (gf go : Nat) (y : PartD) (n2 : NameD) (u : Value) (w' : World) : Prop := has w' gf 0 39 = true ∧ rd w' gf 0 39 = partA y u ∧ has w' go 0 39 = true ∧ rd w' go 0 39 = partA (withN y n2) u
theorem sx_of {w' : World} {gf go : Nat} {y : PartD} {n2 : NameD} {u : Value} (h1 : PtAt w' gf 0 y u) (h2 : PtAt w' go 0 (withN y n2) u) (hy : y.nm.ok) (hn : n2.ok) : SX gf go y n2 u w' := ⟨h1.has hy, h1.rd hy, h2.has (p := withN y n2) hn, h2.rd (p := withN y n2) hn⟩
/-- the mixed parts of both packets, and the table that is still empty -/
structure MxS (W : World) (F gf : Nat) (y : PartD) (n2 : NameD) (u : Value) (a b : List UInt8) (v : Value) (k base : Nat) (L : List (PartD × Value)) (M : Nat → Prop) (wr : World) : Prop where
  row : RowP wr base v k L
  bs : ∀ z ∈ L, Bs W z.2 z.1.bs
  pts : ∃ C1 C2, Parted 500 y.nm a C1 ∧ Parted 500 n2 b C2 ∧ (L.map (·.1)).Perm (C1 ++ C2)
  ks : KS W W.heap.size wr M F 2 500 [] 0
  pt : PtAt wr gf 0 y u
  far : (∀ q, v.ownBlock = some q → ¬ M q) ∧ ¬ M gf
def cnt (l : List PartD) : Nat := if l = [] then 1 else 0
/-- a round of the loop: what came, what is left -/
structure WmS (W : World) (F gf : Nat) (y : PartD) (n2 : NameD) (u v : Value) (k base : Nat) (L : List (PartD × Value)) (C1 C2 : List PartD) (j c1 c2 : Nat) (wr : World) : Prop where
  row : RowP wr base v k L
  pt : PtAt wr gf 0 y u
  e1 : c1 = cnt (rst y.nm ((L.map (·.1)).drop j))
  e2 : c2 = cnt (rst n2 ((L.map (·.1)).drop j))
  tab : ∃ ps1 ps2 M m T, m ≤ j ∧ Two y.nm n2 C1 C2 ps1 ps2 ((L.map (·.1)).drop j) T ∧ KS W W.heap.size wr M F 2 500 T m ∧ (∀ q, v.ownBlock = some q → ¬ M q) ∧ ¬ M gf
theorem wms_start {W wr : World} {F gf k base : Nat} {y : PartD} {n2 : NameD} {u v : Value} {a b : List UInt8} {L : List (PartD × Value)} {C1 C2 : List PartD} {M : Nat → Prop} (hne : y.nm ≠ n2) (h : MxS W F gf y n2 u a b v k base L M wr) (h1 : Parted 500 y.nm a C1) (h2 : Parted 500 n2 b C2) (hp : (L.map (·.1)).Perm (C1 ++ C2)) : WmS W F gf y n2 u v k base L C1 C2 0 0 0 wr := by
  have ht := two_start hne h1 h2 hp
  refine ⟨h.row, h.pt, ?_, ?_, [], [], M, 0, [], Nat.le_refl _, ?_, h.ks, h.far.1, h.far.2⟩
  · unfold cnt
    rw [if_neg]
    intro e
    have := ht.p1
    rw [List.drop_zero] at e
    rw [e] at this
    exact (whole_last h1.whole).1 (List.Perm.eq_nil this.symm)
  · unfold cnt
    rw [if_neg]
    intro e
    have := ht.p2
    rw [List.drop_zero] at e
    rw [e] at this
    exact (whole_last h2.whole).1 (List.Perm.eq_nil this.symm)
  · rw [List.drop_zero]; exact ht
theorem mx_fit {n1 n2 : NameD} {a b : List UInt8} {C1 C2 X : List PartD} (h1 : Parted 500 n1 a C1) (h2 : Parted 500 n2 b C2) (hX : X.Perm (C1 ++ C2)) (ha : a.length ≤ 500) (hb : b.length ≤ 500) (f1 : n1.fit) (f2 : n2.fit) : ∀ p ∈ X, p.nm.fit ∧ p.bs.length ≤ 500 := fun p hp => by
  have hl : ∀ {n : NameD} {c : List UInt8} {C : List PartD}, Parted 500 n c C → c.length ≤ 500 → p ∈ C → p.bs.length ≤ 500 := fun {n c C} h hc hm => by
    have h2 := bytesP_join C
    rw [h.join] at h2
    have h3 : p.bs.length ≤ bytesP C := bytesP_mem hm
    omega
  rcases List.mem_append.1 (hX.subset hp) with h | h
  · exact ⟨by rw [h1.nm p h]; exact f1, hl h1 ha h⟩
  · exact ⟨by rw [h2.nm p h]; exact f2, hl h2 hb h⟩
theorem parted_pos {most : Int} {n : NameD} {b : List UInt8} {L : List (PartD × Value)} {k : Nat} (h : Parted most n b (L.map (·.1))) (hl : L.length = k) : k ≠ 0 := by
  have h1 := (whole_last h.whole).1
  intro e
  subst e
  rw [List.eq_nil_of_length_eq_zero hl] at h1
  exact h1 rfl
set_option maxRecDepth 100000 in
set_option maxHeartbeats 8000000 in
theorem law_fmx (W : World) (y : PartD) (u : Value) (which : Nat) (va vb vs vw : Value) (a b sizes sws : List UInt8) (hy : y.nm.fit) (hu : u.oneCell' = true) (hwh : which < 256) (ha : Bs W va a) (hb : Bs W vb b) (hs : Bs W vs sizes) (hw : Bs W vw sws) :
    Calls Try.prog 20 #[.agg (partA y u), .int .u8 which, va, vb, vs, vw] W fun e W' => e = .returned (.bool true) ∧ Below W.heap.size W W' := by
  have HY := Lib.hid hy
  have HA := Lib.hid ha
  have HB := Lib.hid hb
  have HS := Lib.hid hs
  have HWW := Lib.hid hw
  obtain ⟨a0, c0, rfl, ha1, ha2, _⟩ := ha
  obtain ⟨a1, c1, rfl, hb1, hb2, _⟩ := hb
  obtain ⟨a2, c2, rfl, hs1, hs2, _⟩ := hs
  obtain ⟨a3, c3, rfl, hw1, hw2, _⟩ := hw
  obtain ⟨la, hla⟩ : ∃ l, l = a.length := ⟨_, rfl⟩
  obtain ⟨lb, hlb⟩ : ∃ l, l = b.length := ⟨_, rfl⟩
  obtain ⟨ls, hls⟩ : ∃ l, l = sizes.length := ⟨_, rfl⟩
  obtain ⟨lw, hlw⟩ : ∃ l, l = sws.length := ⟨_, rfl⟩
  have HLA := Lib.hid hla
  have HLB := Lib.hid hlb
  have HLS := Lib.hid hls
  have HLW := Lib.hid hlw
  rw [← hla] at ha1 HA ⊢
  rw [← hlb] at hb1 HB ⊢
  rw [← hls] at hs1 HS ⊢
  rw [← hlw] at hw1 HWW ⊢
  unfold maxLen at ha2 hb2 hs2 hw2
  have HP0 : Hid (PtAt (W.alloc (.cells (partA y u) 90)) W.heap.size 0 y u ∧ Below W.heap.size W (W.alloc (.cells (partA y u) 90))) := Lib.hid ⟨ptAt_new W y u 90, below_alloc W _⟩
  obtain ⟨gf, hgf⟩ : ∃ g, g = W.heap.size := ⟨_, rfl⟩
  have HGF := Lib.hid hgf
  clear hy hla hlb hls hlw
  go_enter Try.func20, Try.ntmps20
  go_upto_region 1 with fail
  generalize W.alloc (.cells (partA y u) 90) = W1 at HP0 ⊢
  rw [← hgf] at HP0 ⊢
  clear hgf
  go_wp2_with fail
  refine (known17 _).mono ?_
  rintro e w1 ⟨rfl, hb1'⟩
  have HB1 : Hid (PtAt w1 gf 0 y u ∧ Below W.heap.size W w1) := Lib.hid ⟨HP0.out.1.below hb1', by have := HP0.out.2; rw [HGF.out] at this; exact this.then hb1'⟩
  clear hb1' HP0
  by_cases g1 : la = 0
  · subst g1
    go_wp2_with fail
    go_ret
    exact ⟨rfl, HB1.out.2⟩
  have k1 : ((la : Int) == 0) = false := by simp; exact g1
  by_cases g2 : 500 < la
  · go_wp2_with fail
    go_ret
    exact ⟨rfl, HB1.out.2⟩
  by_cases g3 : lb = 0
  · subst g3
    go_wp2_with fail
    go_ret
    exact ⟨rfl, HB1.out.2⟩
  have k2 : ((lb : Int) == 0) = false := by simp; exact g3
  by_cases g4 : 500 < lb
  · go_wp2_with fail
    go_ret
    exact ⟨rfl, HB1.out.2⟩
  by_cases g5 : 60 < ls
  · go_wp2_with fail
    go_ret
    exact ⟨rfl, HB1.out.2⟩
  by_cases g6 : 60 < lw
  · go_wp2_with fail
    go_ret
    exact ⟨rfl, HB1.out.2⟩
  have hok := HY.out.1
  have f1 := HB1.out.1.has hok
  have f2 := HB1.out.1.rd hok
  go_upto_region 5 with fail
  go_cut [13] (fun s13 wx => ∃ g, s13 = .pointer (some ⟨g, 0, none⟩) ∧ Hid (BoxU w1 w1 (y, u) g wx))
  case first =>
    go_wp2_with fail
    go_meet
    case rel => exact ⟨_, rfl, boxU_new w1 w1 (y, u) hok (Below.refl _ _) rfl⟩
  case rest =>
    obtain ⟨go, rfl, HBX⟩ := hcut
    clear f1 f2
    go_upto_block 0 with fail
    go_cut [] (fun wx => Hid (TurnR w1 y u go wx))
    case first =>
      have hm : which % 4 = 0 ∨ which % 4 = 1 ∨ which % 4 = 2 ∨ which % 4 = 3 := by omega
      rcases hm with hm | hm | hm | hm
      · have e4 : (which : Int) % 4 = 0 := by omega
        obtain ⟨i, hi⟩ : ∃ i, i = which % 16 := ⟨_, rfl⟩
        have hi16 : i < 16 := by omega
        have e16 : (which : Int) % 16 = (i : Int) := by omega
        obtain ⟨x, e1, hx, n2, ht⟩ := turns0 y u HY.out i hi16
        rw [Nat.add_comm i 1] at ht
        have hc := (turn_box HBX.out ht).1
        have hf := (turn_box HBX.out ht).2.1
        have HR := Lib.hid (turnR HBX.out ht)
        clear hm hi
        go_wp2_with fail
        go_meet
        case rel => exact HR.out
      · have e4 : (which : Int) % 4 = 1 := by omega
        obtain ⟨b, n2, ht⟩ := turns1 y u HY.out
        have hc := (turn_box HBX.out ht).1
        have hf := (turn_box HBX.out ht).2.1
        have HR := Lib.hid (turnR HBX.out ht)
        clear hm
        go_wp2_with fail
        go_meet
        case rel => exact HR.out
      · have e4 : (which : Int) % 4 = 2 := by omega
        obtain ⟨x, e1, hx, n2, ht⟩ := turns2 y u HY.out
        have hc := (turn_box HBX.out ht).1
        have hf := (turn_box HBX.out ht).2.1
        have HR := Lib.hid (turnR HBX.out ht)
        clear hm
        go_wp2_with fail
        go_meet
        case rel => exact HR.out
      · have e4 : (which : Int) % 4 = 3 := by omega
        obtain ⟨x, e1, hx, n2, ht⟩ := turns3 y u HY.out
        have hc := (turn_box HBX.out ht).1
        have hf := (turn_box HBX.out ht).2.1
        have HR := Lib.hid (turnR HBX.out ht)
        clear hm
        go_wp2_with fail
        go_meet
        case rel => exact HR.out
    case rest =>
      obtain ⟨n2, hne, hfit2, HBX2⟩ := hcut.out
      have HNE := Lib.hid hne
      have HFIT2 := Lib.hid hfit2
      have HBX2 := Lib.hid HBX2
      obtain ⟨wq, rfl⟩ : ∃ wq : World, wq = wc := ⟨_, rfl⟩
      clear hcut hne hfit2 k1 k2
      have HPQ : Hid (PtAt wq gf 0 y u ∧ Below W.heap.size W wq) := Lib.hid ⟨HB1.out.1.below HBX2.out.2.2.2.2, HB1.out.2.then HBX2.out.2.2.2.2⟩
      go_upto_region 14 with fail
      go_wp2_with fail
      refine (new_any wq 2 500).mono ?_
      rintro e w2 ⟨rfl, rfl⟩
      have K2 : Hid (KS W W.heap.size (wq.alloc (.cells #[.int .i64 2, .int .i64 500, .slice none 0 0] 115)) (fun k => k = wq.heap.size) wq.heap.size 2 500 [] 0) := Lib.hid (ks_new W wq W.heap.size 2 500 0 HPQ.out.2 HPQ.out.2.size)
      have HPT : Hid (PtAt (wq.alloc (.cells #[.int .i64 2, .int .i64 500, .slice none 0 0] 115)) gf 0 y u) := Lib.hid (HPQ.out.1.below (below_alloc _ _))
      have HPO : Hid (PtAt (wq.alloc (.cells #[.int .i64 2, .int .i64 500, .slice none 0 0] 115)) go 0 (withN y n2) u) := Lib.hid (HBX2.out.1.below (below_alloc _ _))
      obtain ⟨M0, hM0⟩ : ∃ M0 : Nat → Prop, M0 = fun k => k = wq.heap.size := ⟨_, rfl⟩
      rw [← hM0] at K2
      have HM0 : Hid (¬ M0 gf ∧ gf < (wq.alloc (.cells #[.int .i64 2, .int .i64 500, .slice none 0 0] 115)).heap.size ∧ go < (wq.alloc (.cells #[.int .i64 2, .int .i64 500, .slice none 0 0] 115)).heap.size) := Lib.hid (by
        have h1 : gf < wq.heap.size := World.block_lt_of_cell? wq ⟨gf, 0 + 36, none⟩ (HPQ.out.1.cells HY.out.1).1
        have h2 := HBX2.out.2.2.2.1
        have h3 : (wq.alloc (.cells #[.int .i64 2, .int .i64 500, .slice none 0 0] 115)).heap.size = wq.heap.size + 1 := by simp
        refine ⟨?_, by omega, by omega⟩
        rw [hM0]; intro e; have e : gf = wq.heap.size := e; omega)
      clear hM0
      generalize (wq.alloc (.cells #[.int .i64 2, .int .i64 500, .slice none 0 0] 115)) = w2 at K2 HPT HPO HM0 ⊢
      generalize wq.heap.size = F at K2 ⊢
      have hok := HY.out.1
      have HB2 := Lib.hid K2.out.bel
      have hok2 : (withN y n2).nm.ok := HFIT2.out.1
      have HC1 := Lib.hid (cut_any W w2.drew y u (.slice a0 la c0) (.slice a2 ls c2) a sizes hok hu HA.out (HS.out.below (HB2.out.then (drew_below w2))) (by rw [← HLA.out]; omega) (by rw [← HLS.out]; omega))
      have HC2 : Hid (∀ w3, Below W.heap.size W w3 → Calls Try.prog 56 #[.agg (partA (withN y n2) u), .slice a1 lb c1, .slice a2 ls c2] w3 (CutRet W w3 (withN y n2) b sizes)) := Lib.hid (fun w3 h3 => cut_any W w3 (withN y n2) u (.slice a1 lb c1) (.slice a2 ls c2) b sizes hok2 hu HB.out (HS.out.below h3) (by rw [← HLB.out]; omega) (by rw [← HLS.out]; omega))
      have HPA1 : Hid (∀ k, (∀ j, j < k → posAt sizes j < a.length) → a.length ≤ posAt sizes k → Parted 500 y.nm a (cutL y a sizes k) ∧ k ≤ 126) := Lib.hid (fun k h1 h2 => ⟨cut_parted (by rw [← HLA.out]; omega) h1 h2 (by intro e; have := HLA.out; rw [e] at this; simp at this; omega), cut_few h1 (by rw [← HLA.out]; omega)⟩)
      have HPA2 : Hid (∀ k, (∀ j, j < k → posAt sizes j < b.length) → b.length ≤ posAt sizes k → Parted 500 n2 b (cutL (withN y n2) b sizes k) ∧ k ≤ 126) := Lib.hid (fun k h1 h2 => ⟨cut_parted (y := withN y n2) (by rw [← HLB.out]; omega) h1 h2 (by intro e; have := HLB.out; rw [e] at this; simp at this; omega), cut_few h1 (by rw [← HLB.out]; omega)⟩)
      go_upto_region 15 with fail
      go_cut [15] (fun s15 wx => ∃ g k c, s15 = .slice (some ⟨g, 0, none⟩) k c ∧ 0 < k ∧ k ≤ 252 ∧ Hid (∃ L, MxS W F gf y n2 u a b (.slice (some ⟨g, 0, none⟩) k c) k w2.heap.size L M0 wx))
      case first =>
        as_aux_lemma =>
          refine wp_region_held_drew (S := fun w' => SX gf go y n2 u w') (by kernel_rfl) (sx_of (HPT.out.below (drew_below w2)) (HPO.out.below (drew_below w2)) HY.out.1 HFIT2.out.1) (fun hHeld => ?_)
          refine' wpAnyH_take (i := 0) (v := _) rfl (by kernel_rfl) (by kernel_rfl) (by kernel_rfl) (fun _ _ _ h => h) (Or.inl ⟨by rfl, ?hy1⟩) hHeld ?rest1
          case hy1 => (intro w' hS; obtain ⟨s1, s2, s3, s4⟩ := hS; (try simp only [List.getElem_toArray, List.getElem_cons_zero, List.getElem_cons_succ]); go_simp; try with_reducible rfl)
          try simp only [List.getElem_toArray, List.getElem_cons_zero, List.getElem_cons_succ, Act.put, List.setIfInBounds_toArray, List.set_cons_zero, List.set_cons_succ]
          refine' wpAnyH_take (i := 1) (v := _) rfl (by kernel_rfl) (by kernel_rfl) (by kernel_rfl) (fun _ _ _ h => h) (Or.inl ⟨by rfl, ?hy2⟩) hHeld ?rest2
          case hy2 => (intro w' hS; obtain ⟨s1, s2, s3, s4⟩ := hS; (try simp only [List.getElem_toArray, List.getElem_cons_zero, List.getElem_cons_succ]); go_simp; try with_reducible rfl)
          try simp only [List.getElem_toArray, List.getElem_cons_zero, List.getElem_cons_succ, Act.put, List.setIfInBounds_toArray, List.set_cons_zero, List.set_cons_succ]
          refine' wpAnyH_take (i := 2) (v := _) rfl (by kernel_rfl) (by kernel_rfl) (by kernel_rfl) (fun _ _ _ h => h) (Or.inl ⟨by rfl, ?hy3⟩) hHeld ?rest3
          case hy3 => (intro w' hS; obtain ⟨s1, s2, s3, s4⟩ := hS; (try simp only [List.getElem_toArray, List.getElem_cons_zero, List.getElem_cons_succ]); go_simp; try with_reducible rfl)
          try simp only [List.getElem_toArray, List.getElem_cons_zero, List.getElem_cons_succ, Act.put, List.setIfInBounds_toArray, List.set_cons_zero, List.set_cons_succ]
          refine' wpAnyH_take (i := 4) (v := _) rfl (by kernel_rfl) (by kernel_rfl) (by kernel_rfl) (fun _ _ _ h => h) (Or.inl ⟨by rfl, ?hy4⟩) hHeld ?rest4
          case hy4 => (intro w' hS; obtain ⟨s1, s2, s3, s4⟩ := hS; (try simp only [List.getElem_toArray, List.getElem_cons_zero, List.getElem_cons_succ]); go_simp; try with_reducible rfl)
          try simp only [List.getElem_toArray, List.getElem_cons_zero, List.getElem_cons_succ, Act.put, List.setIfInBounds_toArray, List.set_cons_zero, List.set_cons_succ]
          refine' wpAnyH_take (i := 5) (v := _) rfl (by kernel_rfl) (by kernel_rfl) (by kernel_rfl) (fun _ _ _ h => h) (Or.inl ⟨by rfl, ?hy5⟩) hHeld ?rest5
          case hy5 => (intro w' hS; obtain ⟨s1, s2, s3, s4⟩ := hS; (try simp only [List.getElem_toArray, List.getElem_cons_zero, List.getElem_cons_succ]); go_simp; try with_reducible rfl)
          try simp only [List.getElem_toArray, List.getElem_cons_zero, List.getElem_cons_succ, Act.put, List.setIfInBounds_toArray, List.set_cons_zero, List.set_cons_succ]
          refine' wpAnyH_take (i := 6) (v := _) rfl (by kernel_rfl) (by kernel_rfl) (by kernel_rfl) (fun _ _ _ h => h) (Or.inl ⟨by rfl, ?hy6⟩) hHeld ?rest6
          case hy6 => (intro w' hS; obtain ⟨s1, s2, s3, s4⟩ := hS; (try simp only [List.getElem_toArray, List.getElem_cons_zero, List.getElem_cons_succ]); go_simp; try with_reducible rfl)
          try simp only [List.getElem_toArray, List.getElem_cons_zero, List.getElem_cons_succ, Act.put, List.setIfInBounds_toArray, List.set_cons_zero, List.set_cons_succ]
          refine' wpAnyH_take (i := 9) (v := _) rfl (by kernel_rfl) (by kernel_rfl) (by kernel_rfl) (fun _ _ _ h => h) (Or.inl ⟨by rfl, ?hy7⟩) hHeld ?rest7
          case hy7 => (intro w' hS; obtain ⟨s1, s2, s3, s4⟩ := hS; (try simp only [List.getElem_toArray, List.getElem_cons_zero, List.getElem_cons_succ]); go_simp; try with_reducible rfl)
          try simp only [List.getElem_toArray, List.getElem_cons_zero, List.getElem_cons_succ, Act.put, List.setIfInBounds_toArray, List.set_cons_zero, List.set_cons_succ]
          refine wpAnyH_ready (rs := [3]) (by kernel_rfl) (by simp) ?_
          refine (AllReadyH.cons rfl (fun K hK => ?_) AllReadyH.nil)
          obtain ⟨s1, s2, s3, s4⟩ := hHeld
          go_simp
          refine HC1.out.mono ?_
          rintro e w3 ⟨v1, kk1, rfl, hk1, hpos1, hend1, L1, hL11, hL12, hL13, hL14⟩
          have HL1 := Lib.hid hL12
          have HBS1 := Lib.hid hL13
          have HBE3 : Hid (Below w2.heap.size w2 w3) := Lib.hid ((drew_below w2).then hL14)
          have HP1 := Lib.hid (HPA1.out kk1 hpos1 hend1)
          rw [← hL11] at HP1
          obtain ⟨av1, cv1, rfl, _, _⟩ := ownsRow_shape hL12.own
          clear hk1 hpos1 hend1 hL11 hL12 hL13 hL14 s1 s2 s3 s4
          go_wp2_with fail
          refine hK.out _ _ (sx_of (HPT.out.below HBE3.out) (HPO.out.below HBE3.out) HY.out.1 HFIT2.out.1) (fun hHeld => ?_)
          clear hK K
          try simp only [List.getElem_toArray, List.getElem_cons_zero, List.getElem_cons_succ, Act.put, List.setIfInBounds_toArray, List.set_cons_zero, List.set_cons_succ]
          refine wpAnyH_ready (rs := [7]) (by kernel_rfl) (by simp) ?_
          refine (AllReadyH.cons rfl (fun K hK => ?_) AllReadyH.nil)
          obtain ⟨s1, s2, s3, s4⟩ := hHeld
          go_simp
          refine (HC2.out w3 (HB2.out.then HBE3.out)).mono ?_
          rintro e w4 ⟨v2, kk2, rfl, hk1, hpos1, hend1, L2, hL21, hL22, hL23, hL24⟩
          have HL2 := Lib.hid hL22
          have HBS2 := Lib.hid hL23
          have HBE4 := Lib.hid hL24
          have HP2 := Lib.hid (HPA2.out kk2 hpos1 hend1)
          rw [← hL21] at HP2
          obtain ⟨av2, cv2, rfl, _, _⟩ := ownsRow_shape hL22.own
          have HL14 := Lib.hid (HL1.out.below hL24)
          clear hk1 hpos1 hend1 hL21 hL22 hL23 hL24 s1 s2 s3 s4
          go_wp2_with fail
          refine hK.out _ _ (sx_of ((HPT.out.below HBE3.out).below HBE4.out) ((HPO.out.below HBE3.out).below HBE4.out) HY.out.1 HFIT2.out.1) (fun hHeld => ?_)
          clear hK K
          try simp only [List.getElem_toArray, List.getElem_cons_zero, List.getElem_cons_succ, Act.put, List.setIfInBounds_toArray, List.set_cons_zero, List.set_cons_succ]
          refine wpAnyH_ready (rs := [8]) (by kernel_rfl) (by simp) ?_
          refine (AllReadyH.cons rfl (fun K hK => ?_) AllReadyH.nil)
          obtain ⟨s1, s2, s3, s4⟩ := hHeld
          obtain ⟨va, w5, hrun, hR5, hgr5, hob5⟩ := app_rows w4 w2.heap.size w3.heap.size kk1 kk2 (.slice av1 kk1 cv1) (.slice av2 kk2 cv2) L1 L2 HL14.out HL2.out (parted_pos HP2.out.1 HL2.out.len) (by have := HP1.out.2; have := HP2.out.2; omega) (by have := HBE3.out.size; have := HBE4.out.size; omega)
          have HRUN := Lib.hid hrun
          have HR5 := Lib.hid hR5
          have HO5 := Lib.hid (Only.of_grown (M := fun q => w2.heap.size ≤ q) hgr5 (fun q hq => (World.ownsRow.lt HL14.out.own q hq).1))
          have HB5 : Hid (Below W.heap.size W w5) := Lib.hid (Below.trans (HB2.out.then (HBE3.out.then HBE4.out)) (HO5.out.below (by have := HB2.out.size; have := HBE3.out.size; have := HBE4.out.size; omega) (fun k hk => by have := HB2.out.size; omega)))
          clear hrun hgr5 hob5
          refine step_append_runI rfl (.tmp 95) (.tmp 99) 83 83 rfl _ _ (by first | rfl | simp [Act.eval, Act.put]) (by first | rfl | simp [Act.eval, Act.put]) HRUN.out ?_
          obtain ⟨g5, cv5, rfl, _, _⟩ := own_some hR5.own (by have := parted_pos HP1.out.1 HL1.out.len; omega)
          clear hR5 s1 s2 s3 s4
          go_wp2_with fail
          refine hK.out _ _ (sx_of (((HPT.out.below HBE3.out).below HBE4.out).only HO5.out (by have := HM0.out.2.1; omega)) (((HPO.out.below HBE3.out).below HBE4.out).only HO5.out (by have := HM0.out.2.2; omega)) HY.out.1 HFIT2.out.1) (fun hHeld => ?_)
          clear hK K
          try simp only [List.getElem_toArray, List.getElem_cons_zero, List.getElem_cons_succ, Act.put, List.setIfInBounds_toArray, List.set_cons_zero, List.set_cons_succ]
          refine wpAnyH_ready (rs := [10]) (by kernel_rfl) (by simp) ?_
          refine (AllReadyH.cons rfl (fun K hK => ?_) AllReadyH.nil)
          obtain ⟨s1, s2, s3, s4⟩ := hHeld
          go_simp
          refine (mix_any w5 w2.heap.size (kk1 + kk2) (.slice (some ⟨g5, 0, none⟩) (kk1 + kk2) cv5) (.slice a3 lw c3) (L1 ++ L2) sws HR5.out (by have := HP1.out.2; have := HP2.out.2; omega) (HWW.out.below HB5.out) (fun hne q hq hv => by
            have h1 := bs_lt HWW.out hne q hq
            have h2 := (World.ownsRow.lt HR5.out.own q hv).1
            have h3 := K2.out.sz
            omega)).mono ?_
          rintro e w6 ⟨rfl, L6, hperm6, hrow6, hon6⟩
          have HPE := Lib.hid hperm6
          have HRO6 := Lib.hid hrow6
          have HO6 := Lib.hid hon6
          clear hperm6 hrow6 hon6 s1 s2 s3 s4
          go_wp2_with fail
          refine hK.out _ _ (sx_of ((((HPT.out.below HBE3.out).below HBE4.out).only HO5.out (by have := HM0.out.2.1; omega)).only HO6.out (fun e => by have h1 := (World.ownsRow.lt HR5.out.own _ e).1; have := HM0.out.2.1; omega)) ((((HPO.out.below HBE3.out).below HBE4.out).only HO5.out (by have := HM0.out.2.2; omega)).only HO6.out (fun e => by have h1 := (World.ownsRow.lt HR5.out.own _ e).1; have := HM0.out.2.2; omega)) HY.out.1 HFIT2.out.1) (fun hHeld => ?_)
          clear hK K
          try simp only [List.getElem_toArray, List.getElem_cons_zero, List.getElem_cons_succ, Act.put, List.setIfInBounds_toArray, List.set_cons_zero, List.set_cons_succ]
          refine' wpAnyH_take (i := 11) (v := _) rfl (by kernel_rfl) (by kernel_rfl) (by kernel_rfl) (fun _ _ _ h => h) (Or.inl ⟨by rfl, ?hy12⟩) hHeld ?rest12
          case hy12 => (intro w' hS; obtain ⟨s1, s2, s3, s4⟩ := hS; (try simp only [List.getElem_toArray, List.getElem_cons_zero, List.getElem_cons_succ]); go_simp; try with_reducible rfl)
          try simp only [List.getElem_toArray, List.getElem_cons_zero, List.getElem_cons_succ, Act.put, List.setIfInBounds_toArray, List.set_cons_zero, List.set_cons_succ]
          refine wpAnyH_done (by kernel_rfl) ?_ _
          go_wp2_with fail
          go_meet
          case rel => exact ⟨g5, kk1 + kk2, cv5, rfl, by have := parted_pos HP1.out.1 HL1.out.len; omega, by have := HP1.out.2; have := HP2.out.2; omega, Lib.hid ⟨L6, HRO6.out, fun z hz => (List.mem_append.1 (HPE.out.subset hz)).elim (HBS1.out z) (HBS2.out z), ⟨_, _, HP1.out.1, HP2.out.1, by have := HPE.out.map (·.1); rwa [List.map_append] at this⟩, (((K2.out.below HBE3.out).below HBE4.out).only HO5.out (fun q h1 h2 => by have h3 := K2.out.tb.sub q h1; omega) (fun q hq => by have := HB2.out.size; omega)).only HO6.out (fun q h1 h2 => by have h3 := K2.out.tb.sub q h1; have h4 := (World.ownsRow.lt HR5.out.own q h2).1; omega) (fun q hq => by have h4 := (World.ownsRow.lt HR5.out.own q hq).1; have := HB2.out.size; omega), (((HPT.out.below HBE3.out).below HBE4.out).only HO5.out (by have := HM0.out.2.1; omega)).only HO6.out (fun e => by have h1 := (World.ownsRow.lt HR5.out.own _ e).1; have := HM0.out.2.1; omega), fun q h2 h1 => by have h3 := K2.out.tb.sub q h1; have h4 := (World.ownsRow.lt HR5.out.own q h2).1; omega, HM0.out.1⟩⟩
      case rest =>
        obtain ⟨g, k, cv, rfl, hk0, hk252, HMX⟩ := hcut
        obtain ⟨L, hMX⟩ := HMX.out
        obtain ⟨C1, C2, hC1, hC2, hCP⟩ := hMX.pts
        have HC1 := Lib.hid hC1
        have HC2 := Lib.hid hC2
        have HBL := Lib.hid hMX.bs
        have HLEN := Lib.hid hMX.row.len
        have HX : Hid (∀ p ∈ L.map (·.1), p.nm.fit ∧ p.bs.length ≤ 500) := Lib.hid (fun p hp => mx_fit HC1.out HC2.out hCP (by rw [← HLA.out]; omega) (by rw [← HLB.out]; omega) HY.out HFIT2.out p hp)
        have H4 : Hid (WmS W F gf y n2 u (.slice (some ⟨g, 0, none⟩) k cv) k w2.heap.size L C1 C2 0 0 0 wc) := Lib.hid (wms_start HNE.out.symm hMX hC1 hC2 hCP)
        clear HMX hMX hC1 hC2 hCP HPA1 HPA2 HPT HPO HM0 K2 HBX2 hok hok2
        go_wp2_with fail
        go_loopw [16, 17, 105] (fun s16 s17 s105 wr => ∃ c1 c2 j : Nat, s16 = .int .i64 c1 ∧ s17 = .int .i64 c2 ∧ s105 = .int .i64 j ∧ j ≤ k ∧ c1 ≤ 1 ∧ c2 ≤ 1 ∧ Hid (WmS W F gf y n2 u (.slice (some ⟨g, 0, none⟩) k cv) k w2.heap.size L C1 C2 j c1 c2 wr)) (fun _ _ s105 _ => k - (intOf s105).toNat)
        case atStart => exact ⟨0, 0, 0, rfl, rfl, rfl, by omega, by omega, by omega, H4.out⟩
        case round =>
          obtain ⟨c1, c2, j, rfl, rfl, rfl, hjk, hc11, hc21, HWS⟩ := hrel
          by_cases hj : j < k
          · obtain ⟨x, hx⟩ : ∃ x, L[j]? = some x := ⟨L[j]'(by rw [HLEN.out]; exact hj), by rw [List.getElem?_eq_getElem]⟩
            have hxm := List.mem_of_getElem? hx
            have HXF : Hid (x.1.nm.fit ∧ x.1.bs.length ≤ 500) := Lib.hid (HX.out _ (List.mem_map_of_mem hxm))
            have hok2 : x.1.nm.ok := HXF.out.1.1
            have hok : y.nm.ok := HY.out.1
            have hone : x.2.oneCell' = true := (HWS.out.row.ok x hxm).2
            have hp1 := (HWS.out.row.at rfl hx).1
            have f1 := hp1.has hok2
            have f2 := hp1.rd hok2
            have HBX0 := Lib.hid (HBL.out x hxm)
            have HDR := Lib.hid (drop_one hx)
            clear hp1 hx hxm
            go_upto_region 19 with fail
            obtain ⟨wo, rfl⟩ : ∃ wo : World, wo = wr := ⟨_, rfl⟩
            go_cut [19] (fun s19 wx => ∃ q, s19 = .pointer (some ⟨q, 0, none⟩) ∧ Hid (Boxed wo x q wx))
            case first =>
              go_wp2_with fail
              go_meet
              case rel => exact ⟨_, rfl, boxed_new wo x hok2 rfl⟩
            case rest =>
              obtain ⟨q, rfl, HBX⟩ := hcut
              obtain ⟨wb, rfl⟩ : ∃ wb : World, wb = wc := ⟨_, rfl⟩
              obtain ⟨ps1, ps2, M, m, T, hm, htw, hK, hvM, hgM⟩ := HWS.out.tab
              have HKB := Lib.hid (hK.below HBX.out.2.2.2.2)
              have HM := Lib.hid hm
              have HVM := Lib.hid hvM
              have HGM := Lib.hid hgM
              have HQM : Hid (¬ M q) := Lib.hid (fun e => by have h1 := hK.tb.sub q e; have h2 := HBX.out.2.2.1; omega)
              have HRB : Hid (RowP wb w2.heap.size (.slice (some ⟨g, 0, none⟩) k cv) k L) := Lib.hid (HWS.out.row.below HBX.out.2.2.2.2)
              have HPB : Hid (PtAt wb gf 0 y u) := Lib.hid (HWS.out.pt.below HBX.out.2.2.2.2)
              have HE1 := Lib.hid HWS.out.e1
              have HE2 := Lib.hid HWS.out.e2
              rw [HDR.out] at htw HE1 HE2
              have HTW := Lib.hid htw
              clear f1 f2 hm htw hK hvM hgM
              have f1 := HBX.out.1.has hok2
              have f2 := HBX.out.1.rd hok2
              have HBSX := Lib.hid (HKB.out.bytes HBX0.out (Nat.le_refl _))
              have HFAR := Lib.hid (HKB.out.far HBX0.out (Nat.le_refl _))
              by_cases hmine : x.1.nm = y.nm
              · have HNEX : Hid (x.1.nm ≠ n2) := Lib.hid (fun e => HNE.out (e.symm.trans hmine))
                obtain ⟨T', hR0, hT'⟩ := HTW.out.take1 HNE.out.symm HC1.out hmine
                obtain rfl : c1 = 0 := by rw [HE1.out, rst_hit hmine]; rfl
                have HMINE := Lib.hid hmine
                clear hmine
                by_cases hlast : rst y.nm ((L.map (·.1)).drop (j + 1)) = []
                · as_aux_lemma =>
                    have hR := hR0.trans (if_pos hlast)
                    have HR := Lib.hid hR
                    have HT2 := Lib.hid hT'
                    have HLAST := Lib.hid hlast
                    clear hR hR0 hT' hlast
                    go_wp2_with fail
                    refine (ks_take HKB.out HR.out (by have := HM.out; omega) HXF.out.1 HBSX.out HFAR.out (by decide) (by have := HXF.out.2; omega)).mono ?_
                    rintro e w6 ⟨u1, M6, rfl, ho6, hk6, _, hon6, hm6⟩
                    obtain ⟨au, cu, rfl, _, _⟩ := ownsRow_shape ho6
                    have HO6 := Lib.hid ho6
                    have HK6 := Lib.hid hk6
                    have hP6 := HBX.out.1.only hon6 HQM.out
                    have hG6 := HPB.out.only hon6 HGM.out
                    have HG6 := Lib.hid hG6
                    have HR6 := Lib.hid (HRB.out.only hon6 HVM.out)
                    have HM6 : Hid (∀ i, M6 i → M i ∨ wb.heap.size ≤ i) := Lib.hid hm6
                    have HFRESH : Hid (gf < wb.heap.size) := Lib.hid (World.block_lt_of_cell? wb ⟨gf, 0 + 36, none⟩ (HPB.out.cells hok).1)
                    clear ho6 hk6 hon6 hm6 f1 f2
                    obtain ⟨sA, sB, sp, si⟩ := hP6.split hok2
                    obtain ⟨tA, tB, tp, ti⟩ := hG6.split hok
                    have d1 := sA.has hok2.1
                    have d2 := sA.rd hok2.1
                    have d3 := sB.has hok2.2
                    have d4 := sB.rd hok2.2
                    have d5 := tA.has hok.1
                    have d6 := tA.rd hok.1
                    have d7 := tB.has hok.2
                    have d8 := tB.rd hok.2
                    have r1 := fun w => adr_eq w x.1.nm.s1 y.nm.s1 x.1.nm.A1 y.nm.A1 hok2.1 hok.1
                    have r2 := fun w => adr_eq w x.1.nm.s2 y.nm.s2 x.1.nm.A2 y.nm.A2 hok2.2 hok.2
                    clear sA sB tA tB hP6 hG6
                    go_upto_region 23 with fail
                    go_cut [23] (fun s23 wx => s23 = .bool true ∧ wx = w6)
                    case first =>
                      have p1 : ((x.1.nm.proto : Int) == (y.nm.proto : Int)) = true := by rw [HMINE.out]; simp
                      have p2 : ((x.1.nm.id : Int) == (y.nm.id : Int)) = true := by rw [HMINE.out]; simp
                      have g1 : x.1.nm.s1 = y.nm.s1 ∧ x.1.nm.A1 = y.nm.A1 := by rw [HMINE.out]; exact ⟨rfl, rfl⟩
                      have g2 : x.1.nm.s2 = y.nm.s2 ∧ x.1.nm.A2 = y.nm.A2 := by rw [HMINE.out]; exact ⟨rfl, rfl⟩
                      simp only [decide_eq_true g1] at r1
                      simp only [decide_eq_true g2] at r2
                      clear g1 g2
                      go_wp2_with fail
                      go_meet
                      case rel => exact ⟨rfl, rfl⟩
                    case rest =>
                      obtain ⟨rfl, rfl⟩ := hcut
                      clear d1 d2 d3 d4 d5 d6 d7 d8 r1 r2 sp si tp ti
                      have e1 := conv_bs HO6.out.bs
                      have e2 := conv_bs (HK6.out.bytes HA.out (Nat.le_refl _))
                      skip
                      go_wp2_with fail
                      go_roundw
                      case rel => exact ⟨1, c2, j + 1, by go_num, by go_num, by go_num, by omega, by omega, by omega, HR6.out, HG6.out, by rw [cnt]; simp [HLAST.out], by rw [HE2.out, rst_miss HNEX.out], _, _, M6, m + 1, _, by have := HM.out; omega, HT2.out, HK6.out, fun i hi hm => by
                        rcases HM6.out i hm with h1 | h1
                        · exact HVM.out i hi h1
                        · have := (World.ownsRow.lt HRB.out.own i hi).2; omega, fun hm => by
                        rcases HM6.out gf hm with h1 | h1
                        · exact HGM.out h1
                        · have := HFRESH.out; omega⟩
                      case measure => simp [intOf]; omega
                · as_aux_lemma =>
                    have hR := hR0.trans (if_neg hlast)
                    have HR := Lib.hid hR
                    have HT2 := Lib.hid hT'
                    have HLAST := Lib.hid hlast
                    clear hR hR0 hT' hlast
                    go_wp2_with fail
                    refine (ks_take HKB.out HR.out (by have := HM.out; omega) HXF.out.1 HBSX.out HFAR.out (by decide) (by have := HXF.out.2; omega)).mono ?_
                    rintro e w6 ⟨u1, M6, rfl, ho6, hk6, _, hon6, hm6⟩
                    obtain ⟨au, cu, rfl, _, _⟩ := ownsRow_shape ho6
                    have HO6 := Lib.hid ho6
                    have HK6 := Lib.hid hk6
                    have hP6 := HBX.out.1.only hon6 HQM.out
                    have hG6 := HPB.out.only hon6 HGM.out
                    have HG6 := Lib.hid hG6
                    have HR6 := Lib.hid (HRB.out.only hon6 HVM.out)
                    have HM6 : Hid (∀ i, M6 i → M i ∨ wb.heap.size ≤ i) := Lib.hid hm6
                    have HFRESH : Hid (gf < wb.heap.size) := Lib.hid (World.block_lt_of_cell? wb ⟨gf, 0 + 36, none⟩ (HPB.out.cells hok).1)
                    clear ho6 hk6 hon6 hm6 f1 f2
                    obtain ⟨sA, sB, sp, si⟩ := hP6.split hok2
                    obtain ⟨tA, tB, tp, ti⟩ := hG6.split hok
                    have d1 := sA.has hok2.1
                    have d2 := sA.rd hok2.1
                    have d3 := sB.has hok2.2
                    have d4 := sB.rd hok2.2
                    have d5 := tA.has hok.1
                    have d6 := tA.rd hok.1
                    have d7 := tB.has hok.2
                    have d8 := tB.rd hok.2
                    have r1 := fun w => adr_eq w x.1.nm.s1 y.nm.s1 x.1.nm.A1 y.nm.A1 hok2.1 hok.1
                    have r2 := fun w => adr_eq w x.1.nm.s2 y.nm.s2 x.1.nm.A2 y.nm.A2 hok2.2 hok.2
                    clear sA sB tA tB hP6 hG6
                    go_upto_region 23 with fail
                    go_cut [23] (fun s23 wx => s23 = .bool true ∧ wx = w6)
                    case first =>
                      have p1 : ((x.1.nm.proto : Int) == (y.nm.proto : Int)) = true := by rw [HMINE.out]; simp
                      have p2 : ((x.1.nm.id : Int) == (y.nm.id : Int)) = true := by rw [HMINE.out]; simp
                      have g1 : x.1.nm.s1 = y.nm.s1 ∧ x.1.nm.A1 = y.nm.A1 := by rw [HMINE.out]; exact ⟨rfl, rfl⟩
                      have g2 : x.1.nm.s2 = y.nm.s2 ∧ x.1.nm.A2 = y.nm.A2 := by rw [HMINE.out]; exact ⟨rfl, rfl⟩
                      simp only [decide_eq_true g1] at r1
                      simp only [decide_eq_true g2] at r2
                      clear g1 g2
                      go_wp2_with fail
                      go_meet
                      case rel => exact ⟨rfl, rfl⟩
                    case rest =>
                      obtain ⟨rfl, rfl⟩ := hcut
                      clear d1 d2 d3 d4 d5 d6 d7 d8 r1 r2 sp si tp ti
                      go_wp2_with fail
                      go_roundw
                      case rel => exact ⟨0, c2, j + 1, by go_num, by go_num, by go_num, by omega, by omega, by omega, HR6.out, HG6.out, by rw [cnt]; simp [HLAST.out], by rw [HE2.out, rst_miss HNEX.out], _, _, M6, m + 1, _, by have := HM.out; omega, HT2.out, HK6.out, fun i hi hm => by
                        rcases HM6.out i hm with h1 | h1
                        · exact HVM.out i hi h1
                        · have := (World.ownsRow.lt HRB.out.own i hi).2; omega, fun hm => by
                        rcases HM6.out gf hm with h1 | h1
                        · exact HGM.out h1
                        · have := HFRESH.out; omega⟩
                      case measure => simp [intOf]; omega
              · have hN2 : x.1.nm = n2 := (HTW.out.nm x.1 (List.mem_cons_self ..)).resolve_left hmine
                have HNEX : Hid (x.1.nm ≠ y.nm) := Lib.hid hmine
                obtain ⟨T', hR0, hT'⟩ := HTW.out.take2 HNE.out.symm HC2.out hN2
                obtain rfl : c2 = 0 := by rw [HE2.out, rst_hit hN2]; rfl
                have HNEY := Lib.hid hmine
                clear hN2 hmine
                by_cases hlast : rst n2 ((L.map (·.1)).drop (j + 1)) = []
                · as_aux_lemma =>
                    have hR := hR0.trans (if_pos hlast)
                    have HR := Lib.hid hR
                    have HT2 := Lib.hid hT'
                    have HLAST := Lib.hid hlast
                    clear hR hR0 hT' hlast
                    go_wp2_with fail
                    refine (ks_take HKB.out HR.out (by have := HM.out; omega) HXF.out.1 HBSX.out HFAR.out (by decide) (by have := HXF.out.2; omega)).mono ?_
                    rintro e w6 ⟨u1, M6, rfl, ho6, hk6, _, hon6, hm6⟩
                    obtain ⟨au, cu, rfl, _, _⟩ := ownsRow_shape ho6
                    have HO6 := Lib.hid ho6
                    have HK6 := Lib.hid hk6
                    have hP6 := HBX.out.1.only hon6 HQM.out
                    have hG6 := HPB.out.only hon6 HGM.out
                    have HG6 := Lib.hid hG6
                    have HR6 := Lib.hid (HRB.out.only hon6 HVM.out)
                    have HM6 : Hid (∀ i, M6 i → M i ∨ wb.heap.size ≤ i) := Lib.hid hm6
                    have HFRESH : Hid (gf < wb.heap.size) := Lib.hid (World.block_lt_of_cell? wb ⟨gf, 0 + 36, none⟩ (HPB.out.cells hok).1)
                    clear ho6 hk6 hon6 hm6 f1 f2
                    obtain ⟨sA, sB, sp, si⟩ := hP6.split hok2
                    obtain ⟨tA, tB, tp, ti⟩ := hG6.split hok
                    have d1 := sA.has hok2.1
                    have d2 := sA.rd hok2.1
                    have d3 := sB.has hok2.2
                    have d4 := sB.rd hok2.2
                    have d5 := tA.has hok.1
                    have d6 := tA.rd hok.1
                    have d7 := tB.has hok.2
                    have d8 := tB.rd hok.2
                    have r1 := fun w => adr_eq w x.1.nm.s1 y.nm.s1 x.1.nm.A1 y.nm.A1 hok2.1 hok.1
                    have r2 := fun w => adr_eq w x.1.nm.s2 y.nm.s2 x.1.nm.A2 y.nm.A2 hok2.2 hok.2
                    clear sA sB tA tB hP6 hG6
                    go_upto_region 23 with fail
                    go_cut [23] (fun s23 wx => s23 = .bool false ∧ wx = w6)
                    case first =>
                      by_cases m1 : x.1.nm.s1 = y.nm.s1 ∧ x.1.nm.A1 = y.nm.A1
                      · simp only [decide_eq_true m1] at r1
                        by_cases m2 : x.1.nm.s2 = y.nm.s2 ∧ x.1.nm.A2 = y.nm.A2
                        · simp only [decide_eq_true m2] at r2
                          by_cases m3 : x.1.nm.proto = y.nm.proto
                          · have p1 : ((x.1.nm.proto : Int) == (y.nm.proto : Int)) = true := by rw [m3]; simp
                            have p2 : ((x.1.nm.id : Int) == (y.nm.id : Int)) = false := by
                              simp only [beq_eq_false_iff_ne]; intro e
                              exact HNEY.out (by cases hq : x.1.nm; cases hr : y.nm; rw [hq, hr] at m1 m2 m3 e; simp only at m1 m2 m3 e; simp only [m1, m2, m3, Int.ofNat.inj e])
                            clear m1 m2 m3
                            go_wp2_with fail
                            go_meet
                            case rel => exact ⟨rfl, rfl⟩
                          · have p1 : ((x.1.nm.proto : Int) == (y.nm.proto : Int)) = false := by simp only [beq_eq_false_iff_ne]; omega
                            clear m1 m2 m3
                            go_wp2_with fail
                            go_meet
                            case rel => exact ⟨rfl, rfl⟩
                        · simp only [decide_eq_false m2] at r2
                          clear m1 m2
                          go_wp2_with fail
                          go_meet
                          case rel => exact ⟨rfl, rfl⟩
                      · simp only [decide_eq_false m1] at r1
                        clear m1
                        go_wp2_with fail
                        go_meet
                        case rel => exact ⟨rfl, rfl⟩
                    case rest =>
                      obtain ⟨rfl, rfl⟩ := hcut
                      clear d1 d2 d3 d4 d5 d6 d7 d8 r1 r2 sp si tp ti
                      have e1 := conv_bs HO6.out.bs
                      have e2 := conv_bs (HK6.out.bytes HB.out (Nat.le_refl _))
                      skip
                      go_wp2_with fail
                      go_roundw
                      case rel => exact ⟨c1, 1, j + 1, by go_num, by go_num, by go_num, by omega, by omega, by omega, HR6.out, HG6.out, by rw [HE1.out, rst_miss HNEX.out], by rw [cnt]; simp [HLAST.out], _, _, M6, m + 1, _, by have := HM.out; omega, HT2.out, HK6.out, fun i hi hm => by
                        rcases HM6.out i hm with h1 | h1
                        · exact HVM.out i hi h1
                        · have := (World.ownsRow.lt HRB.out.own i hi).2; omega, fun hm => by
                        rcases HM6.out gf hm with h1 | h1
                        · exact HGM.out h1
                        · have := HFRESH.out; omega⟩
                      case measure => simp [intOf]; omega
                · as_aux_lemma =>
                    have hR := hR0.trans (if_neg hlast)
                    have HR := Lib.hid hR
                    have HT2 := Lib.hid hT'
                    have HLAST := Lib.hid hlast
                    clear hR hR0 hT' hlast
                    go_wp2_with fail
                    refine (ks_take HKB.out HR.out (by have := HM.out; omega) HXF.out.1 HBSX.out HFAR.out (by decide) (by have := HXF.out.2; omega)).mono ?_
                    rintro e w6 ⟨u1, M6, rfl, ho6, hk6, _, hon6, hm6⟩
                    obtain ⟨au, cu, rfl, _, _⟩ := ownsRow_shape ho6
                    have HO6 := Lib.hid ho6
                    have HK6 := Lib.hid hk6
                    have hP6 := HBX.out.1.only hon6 HQM.out
                    have hG6 := HPB.out.only hon6 HGM.out
                    have HG6 := Lib.hid hG6
                    have HR6 := Lib.hid (HRB.out.only hon6 HVM.out)
                    have HM6 : Hid (∀ i, M6 i → M i ∨ wb.heap.size ≤ i) := Lib.hid hm6
                    have HFRESH : Hid (gf < wb.heap.size) := Lib.hid (World.block_lt_of_cell? wb ⟨gf, 0 + 36, none⟩ (HPB.out.cells hok).1)
                    clear ho6 hk6 hon6 hm6 f1 f2
                    obtain ⟨sA, sB, sp, si⟩ := hP6.split hok2
                    obtain ⟨tA, tB, tp, ti⟩ := hG6.split hok
                    have d1 := sA.has hok2.1
                    have d2 := sA.rd hok2.1
                    have d3 := sB.has hok2.2
                    have d4 := sB.rd hok2.2
                    have d5 := tA.has hok.1
                    have d6 := tA.rd hok.1
                    have d7 := tB.has hok.2
                    have d8 := tB.rd hok.2
                    have r1 := fun w => adr_eq w x.1.nm.s1 y.nm.s1 x.1.nm.A1 y.nm.A1 hok2.1 hok.1
                    have r2 := fun w => adr_eq w x.1.nm.s2 y.nm.s2 x.1.nm.A2 y.nm.A2 hok2.2 hok.2
                    clear sA sB tA tB hP6 hG6
                    go_upto_region 23 with fail
                    go_cut [23] (fun s23 wx => s23 = .bool false ∧ wx = w6)
                    case first =>
                      by_cases m1 : x.1.nm.s1 = y.nm.s1 ∧ x.1.nm.A1 = y.nm.A1
                      · simp only [decide_eq_true m1] at r1
                        by_cases m2 : x.1.nm.s2 = y.nm.s2 ∧ x.1.nm.A2 = y.nm.A2
                        · simp only [decide_eq_true m2] at r2
                          by_cases m3 : x.1.nm.proto = y.nm.proto
                          · have p1 : ((x.1.nm.proto : Int) == (y.nm.proto : Int)) = true := by rw [m3]; simp
                            have p2 : ((x.1.nm.id : Int) == (y.nm.id : Int)) = false := by
                              simp only [beq_eq_false_iff_ne]; intro e
                              exact HNEY.out (by cases hq : x.1.nm; cases hr : y.nm; rw [hq, hr] at m1 m2 m3 e; simp only at m1 m2 m3 e; simp only [m1, m2, m3, Int.ofNat.inj e])
                            clear m1 m2 m3
                            go_wp2_with fail
                            go_meet
                            case rel => exact ⟨rfl, rfl⟩
                          · have p1 : ((x.1.nm.proto : Int) == (y.nm.proto : Int)) = false := by simp only [beq_eq_false_iff_ne]; omega
                            clear m1 m2 m3
                            go_wp2_with fail
                            go_meet
                            case rel => exact ⟨rfl, rfl⟩
                        · simp only [decide_eq_false m2] at r2
                          clear m1 m2
                          go_wp2_with fail
                          go_meet
                          case rel => exact ⟨rfl, rfl⟩
                      · simp only [decide_eq_false m1] at r1
                        clear m1
                        go_wp2_with fail
                        go_meet
                        case rel => exact ⟨rfl, rfl⟩
                    case rest =>
                      obtain ⟨rfl, rfl⟩ := hcut
                      clear d1 d2 d3 d4 d5 d6 d7 d8 r1 r2 sp si tp ti
                      go_wp2_with fail
                      go_roundw
                      case rel => exact ⟨c1, 0, j + 1, by go_num, by go_num, by go_num, by omega, by omega, by omega, HR6.out, HG6.out, by rw [HE1.out, rst_miss HNEX.out], by rw [cnt]; simp [HLAST.out], _, _, M6, m + 1, _, by have := HM.out; omega, HT2.out, HK6.out, fun i hi hm => by
                        rcases HM6.out i hm with h1 | h1
                        · exact HVM.out i hi h1
                        · have := (World.ownsRow.lt HRB.out.own i hi).2; omega, fun hm => by
                        rcases HM6.out gf hm with h1 | h1
                        · exact HGM.out h1
                        · have := HFRESH.out; omega⟩
                      case measure => simp [intOf]; omega
          · obtain rfl : j = k := by omega
            have hd : (L.map (·.1)).drop j = [] := List.drop_eq_nil_of_le (by rw [List.length_map, HLEN.out]; exact Nat.le_refl _)
            obtain ⟨ps1, ps2, M, m, T, hm, htw, hK, _, _⟩ := HWS.out.tab
            rw [hd] at htw
            have hT := two_end htw
            subst hT
            obtain rfl : c1 = 1 := by rw [HWS.out.e1, hd]; rfl
            obtain rfl : c2 = 1 := by rw [HWS.out.e2, hd]; rfl
            have HK := Lib.hid hK
            have HM := Lib.hid hm
            clear hd htw hK hm
            as_aux_lemma =>
            go_wp2_with fail
            refine (ks_live HK.out (by have := HM.out; omega)).mono ?_
            rintro e w7 ⟨rfl, hb7⟩
            have HK7 := Lib.hid (HK.out.below hb7)
            have hbyt : bytesT ([] : List PkT) = 0 := rfl
            have hlen : ([] : List PkT).length = 0 := rfl
            rw [hbyt, hlen]
            clear hb7 hbyt hlen
            go_wp2_with fail
            go_ret
            exact ⟨rfl, HK7.out.bel⟩
end Go.Proofs.Ytnckmaieghlpmaa
