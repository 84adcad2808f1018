/-
  The law FragOwn: two tables that are handed the same parts tell the same, though the bytes handed to one, and told by it, are overwritten.
-/
import Derived.Test.YtnckmaieghlpmaaZ8
import Derived.Test.YtnckmaieghlpmaaZ5
import Derived.Test.YtnckmaieghlpmaaZ1
import Derived.Deep.DeepCutAuto
namespace Go.Proofs.Ytnckmaieghlpmaa
open Go.RowKit
set_option linter.unusedVariables false
set_option linter.unusedSimpArgs false
attribute [local go_sem ↓] fold_ld54 fold_st54 fold_ld90 fold_st90 fold_ld121 fold_st121 fold_ld124 fold_st124 Go.wp_at_zero Go.wp_at_succ
attribute [local go_sem] ld54_at st54_at ld90_at st90_pt ld121_at st121_nm ld124_at free_new1 bx36 bx37 bx38 bxhas bxrd

theorem KS.only {w0 : World} {B : Nat} {w w' : World} {M N : Nat → Prop} {F : Nat} {many most : Int} {T : List PkT} {n : Nat} (h : KS w0 B w M F many most T n) (ho : Only N w w') (hd : ∀ k, M k → N k → False) (hN : ∀ k, N k → B ≤ k) : KS w0 B w' M F many most T n :=
  ⟨h.tb.only ho hd, h.old, h.bel.trans (ho.below h.sz hN), Nat.le_trans h.sz ho.size⟩
theorem PtAt.set38 {w : World} {g : Nat} {p : PartD} {v : Value} (h : PtAt w g 0 p v) (hp : p.nm.ok) (v2 : Value) : PtAt (w.setCell ⟨g, 38, none⟩ v2) g 0 p v2 := by
  intro j u hu
  rw [Nat.zero_add]
  have hlen := partL_len hp v2
  by_cases hj : j = 38
  · subst hj
    rw [(partL_at hp v2).2.2] at hu
    cases hu
    exact World.cell?_setCell_same _ _ _ (by have := (h.cells hp).2.2; rwa [Nat.zero_add] at this)
  · rw [World.cell?_setCell_other _ _ _ _ (by simp <;> omega)]
    have := h j u (by
      rw [← hu]
      have hj2 := (List.getElem?_eq_some_iff.1 hu).1
      unfold partL
      rcases Nat.lt_or_ge j (nameL p.nm).length with hlt | hge
      · rw [List.getElem?_append_left hlt, List.getElem?_append_left hlt]
      · rw [List.getElem?_append_right hge, List.getElem?_append_right hge]
        have hnl := nameL_len hp
        rw [hlen] at hj2
        rcases (show j = 36 ∨ j = 37 by omega) with rfl | rfl
        · rw [hnl]; rfl
        · rw [hnl]; rfl)
    rwa [Nat.zero_add] at this
theorem PtAt.only {w w' : World} {g : Nat} {p : PartD} {v : Value} {N : Nat → Prop} (h : PtAt w g 0 p v) (ho : Only N w w') (hn : ¬ N g) : PtAt w' g 0 p v := fun j u hu => ho.cell (h j u hu) hn

/-- two tables of the call's own, alike -/
def Pair2 (W : World) (F1 F2 : Nat) (many most : Int) (n : Nat) (ix : Value) (wr : World) : Prop :=
  ∃ (k : Nat) (M1 M2 : Nat → Prop) (T : List PkT), ix = .int .i64 k ∧ k ≤ n ∧ KS W W.heap.size wr M1 F1 many most T k ∧ KS W W.heap.size wr M2 F2 many most T k ∧ ∀ i, M1 i → M2 i → False
/-- a part in a box, and in another one with bytes of its own -/
structure TwoB (wo : World) (x : PartD × Value) (gp gq : Nat) (v2 : Value) (wx : World) : Prop where
  p : PtAt wx gp 0 x.1 x.2
  q : PtAt wx gq 0 x.1 v2
  own : Own wx 0 v2 x.1.bs
  op : wo.heap.size ≤ gp ∧ gp < wx.heap.size
  oq : wo.heap.size ≤ gq ∧ gq < wx.heap.size
  blk : ∀ k, v2.ownBlock = some k → wo.heap.size ≤ k ∧ k ≠ gp ∧ k ≠ gq ∧ k < wx.heap.size
  bel : Below wo.heap.size wo wx
theorem twoB_new {wo wa wb w8 : World} {x : PartD × Value} {gp gq : Nat} {o : Obj} (h1 : Boxed wo x gp wa) (h2 : Boxed wa x gq wb) (hok : x.1.nm.ok) {v2 : Value} (ho : Own w8 wb.heap.size v2 x.1.bs) (hb : Below wb.heap.size (wb.alloc o) w8) : TwoB wo x gp gq v2 (w8.setCell ⟨gq, 38, none⟩ v2) := by
  have hb8 : Below wb.heap.size wb w8 := (below_alloc wb o).trans hb
  have hgp : gp < wa.heap.size := h1.2.2.2.1
  have hgq : gq = wa.heap.size := h2.2.2.1
  have hgq2 : gq < wb.heap.size := h2.2.2.2.1
  have hs1 := h2.2.2.2.2.size
  have hs8 := hb8.size
  have s1 := h1.2.2.1
  have hlt := fun k hk => World.ownsRow.lt ho k hk
  refine ⟨?_, ((h2.1.below hb8).set38 hok v2), ?_, ⟨by omega, by simp; omega⟩, ⟨by omega, by simp; omega⟩, fun k hk => ⟨by have := hlt k hk; omega, by have := hlt k hk; omega, by have := hlt k hk; omega, by have := hlt k hk; simp; omega⟩, ?_⟩
  · intro j u hu
    rw [World.cell?_setCell_other _ _ _ _ (by simp <;> omega)]
    exact ((h1.1.below h2.2.2.2.2).below hb8) j u hu
  · refine ownsRow_keep (ownsRow_base ho (fun k _ => Nat.zero_le k)) (fun k hk => heap_setCell_other _ _ _ _ ?_)
    show k ≠ gq
    have := hlt k hk; omega
  · exact ((h1.2.2.2.2.then h2.2.2.2.2).then hb8).setCell (p := ⟨gq, 38, none⟩) (by show wo.heap.size ≤ gq; omega) v2
theorem xor255 (x : UInt8) : ∃ y : UInt8, bits BinOp.xor IntKind.u8 (x.toNat : Int) 255 = (y.toNat : Int) := by
  have : ∀ n : Nat, n < 256 → bits BinOp.xor IntKind.u8 (n : Int) 255 = ((255 - n : Nat) : Int) := by decide +kernel
  refine ⟨UInt8.ofNat (255 - x.toNat), ?_⟩
  rw [this x.toNat x.toNat_lt]
  have : (UInt8.ofNat (255 - x.toNat)).toNat = 255 - x.toNat := by simp; omega
  rw [this]
/-- some bytes of an own slice have been written -/
def Flp (w5 : World) (v2 : Value) (m : Nat) (wz : World) : Prop := (∃ ys : List UInt8, ys.length = m ∧ Own wz 0 v2 ys) ∧ Only (fun k => v2.ownBlock = some k) w5 wz
theorem Flp.cell {w5 : World} {a : Option Addr} {m c : Nat} {wz : World} (h : Flp w5 (.slice a m c) m wz) {j : Nat} (hj : j < m) : ∃ g x y, a = some ⟨g, 0, none⟩ ∧ wz.cell? ⟨g, j, none⟩ = some (.int .u8 ((x : UInt8).toNat : Int)) ∧ wz.frozen? ⟨g, j, none⟩ = false ∧ bits BinOp.xor IntKind.u8 (x.toNat : Int) 255 = ((y : UInt8).toNat : Int) ∧ Flp w5 (.slice a m c) m (wz.setCell ⟨g, j, none⟩ (.int .u8 (y.toNat : Int))) := by
  obtain ⟨⟨ys, hl, ho⟩, hon⟩ := h
  rcases ho.shape with ⟨e, hn⟩ | ⟨g, cap, e, _, hg, h1, h2⟩
  · rw [hn] at hl; simp at hl; omega
  · cases e
    clear hl
    obtain ⟨x, hx⟩ : ∃ x, ys[j]? = some x := ⟨ys[j]'(by omega), List.getElem?_eq_getElem _⟩
    obtain ⟨y, hy⟩ := xor255 x
    exact ⟨g, x, y, rfl, own_cell ho hx, own_free ho j, hy, ⟨ys.set j y, by simp, own_store ho j y⟩, Only.setCell (M := fun k => (Value.slice (some ⟨g, 0, none⟩) ys.length c).ownBlock = some k) hon (p := ⟨g, j, none⟩) rfl _⟩
end Go.Proofs.Ytnckmaieghlpmaa
