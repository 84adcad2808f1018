/-
  What the walk of the law FragOwn carries along.
-/
import Derived.Test.YtnckmaieghlpmaaLawFown
namespace Go.Proofs.Ytnckmaieghlpmaa
open Go.RowKit
set_option linter.unusedVariables false

section
variable {W wo w3 w4 w5 : World} {B : Nat} {M1 M2 M1' M2' : Nat → Prop} {F1 F2 gp gq : Nat} {many most : Int} {T T' : List PkT} {k : Nat} {x : PartD × Value} {v2 u1 u2 : Value} {bs : List UInt8}

/-- behind the first Take -/
theorem fo4 (h1 : KS W B w3 M1 F1 many most T k) (h2 : KS W B w3 M2 F2 many most T k) (hd : ∀ i, M1 i → M2 i → False) (hs1 : ∀ i, M1 i → i < wo.heap.size) (hs2 : ∀ i, M2 i → i < wo.heap.size) (H2 : TwoB wo x gp gq v2 w3) (on1 : Only M1 w3 w4) :
    KS W B w4 M2 F2 many most T k ∧ PtAt w4 gq 0 x.1 v2 ∧ Own w4 0 v2 x.1.bs ∧ ∀ i, v2.ownBlock = some i → ¬ M2 i := by
  refine ⟨h2.only on1 (fun i a b => hd i b a) h1.old, H2.q.only on1 (fun hm => ?_), ownsRow_keep H2.own (fun i hi => on1.block i (H2.blk i hi).2.2.2 (fun hm => ?_)), fun i hi hm => ?_⟩
  · have := hs1 gq hm; have := H2.oq; omega
  · have := hs1 i hm; have := H2.blk i hi; omega
  · have := hs2 i hm; have := H2.blk i hi; omega

/-- behind both -/
structure Fo5 (W : World) (B : Nat) (F1 F2 : Nat) (many most : Int) (T' : List PkT) (n : Nat) (gq : Nat) (v2 u1 u2 : Value) (xbs bs : List UInt8) (w5 : World) (M1 M2 : Nat → Prop) : Prop where
  k1 : KS W B w5 M1 F1 many most T' n
  k2 : KS W B w5 M2 F2 many most T' n
  dis : ∀ i, M1 i → M2 i → False
  cq : w5.cell? ⟨gq, 38, none⟩ = some v2
  ov : Own w5 0 v2 xbs
  o1 : Own w5 0 u1 bs
  o2 : Own w5 0 u2 bs
  nv : ∀ i, v2.ownBlock = some i → ¬ M1 i ∧ ¬ M2 i ∧ B ≤ i ∧ i ≠ gq
  nu : ∀ i, u2.ownBlock = some i → ¬ M1 i ∧ ¬ M2 i ∧ B ≤ i
  ne : ∀ i, v2.ownBlock = some i → u2.ownBlock ≠ some i
theorem fo5 (hok : x.1.nm.ok) (h1 : KS W B w3 M1 F1 many most T k) (h2 : KS W B w3 M2 F2 many most T k) (hd : ∀ i, M1 i → M2 i → False) (hs1 : ∀ i, M1 i → i < wo.heap.size) (hs2 : ∀ i, M2 i → i < wo.heap.size) (hB : B ≤ wo.heap.size) (H2 : TwoB wo x gp gq v2 w3)
    (on1 : Only M1 w3 w4) (o1 : Own w4 w3.heap.size u1 bs) (k1 : KS W B w4 M1' F1 many most T' (k + 1)) (m1 : ∀ i, M1' i → M1 i ∨ w3.heap.size ≤ i)
    (on2 : Only M2 w4 w5) (o2 : Own w5 w4.heap.size u2 bs) (k2 : KS W B w5 M2' F2 many most T' (k + 1)) (m2 : ∀ i, M2' i → M2 i ∨ w4.heap.size ≤ i) (n2 : ∀ i, u2.ownBlock = some i → ¬ M2' i) :
    Fo5 W B F1 F2 many most T' (k + 1) gq v2 u1 u2 x.1.bs bs w5 M1' M2' := by
  obtain ⟨q1, q2, q3, q4⟩ := fo4 h1 h2 hd hs1 hs2 H2 on1
  have s34 := on1.size
  have s45 := on2.size
  have sb := H2.bel.size
  have hM2lt : ∀ i, M2 i → i < w3.heap.size := fun i hi => by have := hs2 i hi; omega
  have hd2 : ∀ i, M1' i → M2 i → False := fun i a b => (m1 i a).elim (fun c => hd i c b) (fun c => by have := hM2lt i b; omega)
  refine ⟨k1.only on2 hd2 h2.old, k2, fun i a b => (m2 i b).elim (fun c => hd2 i a c) (fun c => by have := k1.tb.sub i a; omega), ?_, ownsRow_keep q3 (fun i hi => on2.block i (by have := (H2.blk i hi).2.2.2; omega) (q4 i hi)),
    ownsRow_keep (ownsRow_base o1 (fun i _ => Nat.zero_le i)) (fun i hi => on2.block i (World.ownsRow.lt o1 i hi).2 (fun hm => by have := hM2lt i hm; have := (World.ownsRow.lt o1 i hi).1; omega)), ownsRow_base o2 (fun i _ => Nat.zero_le i), fun i hi => ?_, fun i hi => ?_, fun i hi e => by have := H2.blk i hi; have := World.ownsRow.lt o2 i e; omega⟩
  · have := (q2.cells hok).2.2
    rw [Nat.zero_add] at this
    exact on2.cell this (fun hm => by have := hs2 gq hm; have := H2.oq; omega)
  · have hb := H2.blk i hi
    refine ⟨fun hm => ?_, fun hm => ?_, by omega, hb.2.2.1⟩
    · rcases m1 i hm with c | c
      · have := hs1 i c; omega
      · omega
    · rcases m2 i hm with c | c
      · exact q4 i hi c
      · omega
  · have hb := World.ownsRow.lt o2 i hi
    refine ⟨fun hm => ?_, n2 i hi, by omega⟩
    have := k1.tb.sub i hm; omega
theorem flp_start {v : Value} {bs : List UInt8} {m : Nat} (ho : Own w5 0 v bs) (hm : m = bs.length) : Flp w5 v m w5 := ⟨⟨bs, hm.symm, ho⟩, Only.refl _ _⟩
theorem Flp.drew {v : Value} {m : Nat} {wz : World} (h : Flp w5 v m wz) : Flp w5 v m wz.drew := ⟨h.1, h.2.drew⟩
theorem Fo5.flip {n : Nat} {xbs : List UInt8} (h : Fo5 W B F1 F2 many most T' n gq v2 u1 u2 xbs bs w5 M1 M2) {w6 : World} {m : Nat} (hf : Flp w5 v2 m w6) :
    KS W B w6 M1 F1 many most T' n ∧ KS W B w6 M2 F2 many most T' n ∧ Own w6 0 u2 bs := by
  refine ⟨h.k1.only hf.2 (fun i a b => (h.nv i b).1 a) (fun i b => (h.nv i b).2.2.1), h.k2.only hf.2 (fun i a b => (h.nv i b).2.1 a) (fun i b => (h.nv i b).2.2.1), ownsRow_keep h.o2 (fun i hi => hf.2.block i (World.ownsRow.lt h.o2 i hi).2 (fun e => h.ne i e hi))⟩
theorem Fo5.cellq {n : Nat} {xbs : List UInt8} (h : Fo5 W B F1 F2 many most T' n gq v2 u1 u2 xbs bs w5 M1 M2) {wz : World} {m : Nat} (hf : Flp w5 v2 m wz) : wz.cell? ⟨gq, 38, none⟩ = some v2 :=
  hf.2.cell h.cq (fun e => (h.nv gq e).2.2.2 rfl)
end
end Go.Proofs.Ytnckmaieghlpmaa
