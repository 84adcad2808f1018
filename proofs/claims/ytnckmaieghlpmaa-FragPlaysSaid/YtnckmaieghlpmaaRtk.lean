/-
  The reference's Take, for every part: in one contract.
-/
import Derived.Test.YtnckmaieghlpmaaRtake
namespace Go.Proofs.Ytnckmaieghlpmaa
open Go.RowKit
set_option linter.unusedVariables false
set_option linter.unusedSimpArgs false
attribute [local go_sem ↓] fold_ld54 fold_st54 fold_ld95 fold_st95 fold_bs137 Go.wp_at_zero Go.wp_at_succ
attribute [local go_sem] ld54_at st54_at ld95_at st95_pt free_new1 bs137_at

set_option maxRecDepth 100000 in
set_option maxHeartbeats 2000000 in
theorem rtake_few (w : World) (M : Nat → Prop) (F : Nat) (many most : Int) (lv : Value) (L : List RkM) (p : PartD) (v : Value) (hT : TabRL w M F many most lv L) (hm : many < 1) :
    Calls Try.prog 52 #[.pointer (some ⟨F, 0, none⟩), .agg (partA p v)] w (RTakeRet w M F many most (L.map RkM.T) p) := by
  have hst : takeS many most (L.map RkM.T) p = ⟨L.map RkM.T, [], false, 8⟩ := by unfold takeS; rw [if_pos hm]
  have HST := Lib.hid hst
  have HJ0 := Lib.hid (rj_new (p := p) (v := v) hT (Below.refl _ _))
  obtain ⟨Q, hQ⟩ : ∃ Q, Q = RTakeRet w M F many most (L.map RkM.T) p := ⟨_, rfl⟩
  rw [← hQ]
  have HQ := Lib.hid hQ
  clear hQ hst hT
  go_enter Try.func52, Try.ntmps52
  go_upto_region 1 with fail
  generalize w.alloc (.cells (partA p v) 95) = w0 at HJ0 ⊢
  obtain ⟨gp, hgp⟩ : ∃ g, g = w.heap.size := ⟨_, rfl⟩
  rw [← hgp] at HJ0 ⊢
  have q0 := HJ0.out.tab.cells.1
  clear hgp
  go_wp2_with fail
  go_ret3
  rw [HQ.out]
  exact rj_end HJ0.out HST.out rfl (Below.refl _ _)
set_option maxRecDepth 100000 in
set_option maxHeartbeats 2000000 in
theorem rtake_not (w : World) (M : Nat → Prop) (F : Nat) (many most : Int) (lv : Value) (L : List RkM) (p : PartD) (v : Value) (hT : TabRL w M F many most lv L) (hp : p.nm.ok) (hv : Bs w v p.bs) (hm : ¬ many < 1) (hmost : most ≤ 9223372036854775807) (hmay : mayB most p = false) :
    Calls Try.prog 52 #[.pointer (some ⟨F, 0, none⟩), .agg (partA p v)] w (RTakeRet w M F many most (L.map RkM.T) p) := by
  have hst : takeS many most (L.map RkM.T) p = ⟨L.map RkM.T, [], false, 8⟩ := by unfold takeS; rw [if_neg hm, if_pos hmay]
  have HST := Lib.hid hst
  have HM := Lib.hid (fun w' h => rmay_any w' F most p v hp (hv.below h) (below_cells h _ _ hT.cells.2.1) hmost)
  have HMY := Lib.hid hmay
  have HJ0 := Lib.hid (rj_new (p := p) (v := v) hT (Below.refl _ _))
  have HB0 := Lib.hid (below_alloc w (.cells (partA p v) 95))
  obtain ⟨Q, hQ⟩ : ∃ Q, Q = RTakeRet w M F many most (L.map RkM.T) p := ⟨_, rfl⟩
  rw [← hQ]
  have HQ := Lib.hid hQ
  clear hQ hst hT hv hmay
  go_enter Try.func52, Try.ntmps52
  go_upto_region 1 with fail
  generalize w.alloc (.cells (partA p v) 95) = w0 at HJ0 HB0 ⊢
  obtain ⟨gp, hgp⟩ : ∃ g, g = w.heap.size := ⟨_, rfl⟩
  have HGP := Lib.hid hgp
  rw [← hgp] at HJ0 ⊢
  have q0 := HJ0.out.tab.cells.1
  have q1 := HJ0.out.cp.has hp
  have q2 := HJ0.out.cp.rd hp
  clear hgp
  go_wp2_with fail
  refine (HM.out w0 (by have := HB0.out; exact this)).mono ?_
  rintro e w1 ⟨rfl, hb1⟩
  rw [HMY.out]
  have HB1 := Lib.hid hb1
  clear hb1 q0 q1 q2
  go_wp2_with fail
  go_ret3
  rw [HQ.out]
  exact rj_end HJ0.out HST.out rfl HB1.out
/-- **the reference's Take** -/
theorem rtake_any (w : World) (M : Nat → Prop) (F : Nat) (many most : Int) (T : List PkT) (p : PartD) (v : Value) (hT : TabR w M F many most T) (hp : p.nm.fit) (hv : Bs w v p.bs) (hvM : p.bs ≠ [] → ∀ k, v.ownBlock = some k → ¬ M k)
    (hmost : most ≤ 9223372036854775807) (hO : OkT many most T) (hsm : SmT T) (hpl : p.bs.length ≤ 1048576) :
    Calls Try.prog 52 #[.pointer (some ⟨F, 0, none⟩), .agg (partA p v)] w (RTakeRet w M F many most T p) := by
  obtain ⟨lv, L, hL, rfl⟩ := hT
  by_cases hm : many < 1
  · exact rtake_few w M F many most lv L p v hL hm
  · rcases hmay : mayB most p with _ | _
    · exact rtake_not w M F many most lv L p v hL hp.1 hv hm hmost hmay
    · exact rtake_in w M F many most lv L p v hL hp hv (hvM (fun e => by have := (may_spec hmay).1; rw [e] at this; simp at this)) hm hmost hmay hO hsm hpl

/-- a table of the reference, the call's own; what was there is as it was -/
structure KR (w0 : World) (B : Nat) (w : World) (M : Nat → Prop) (F : Nat) (many most : Int) (T : List PkT) (n : Nat) : Prop where
  tab : TabR w M F many most T
  ok : OkT many most T
  small : Sz n T
  old : ∀ k, M k → B ≤ k
  bel : Below B w0 w
  sz : B ≤ w.heap.size
section
variable {w0 : World} {B : Nat} {w w' : World} {M N : Nat → Prop} {F : Nat} {many most : Int} {T : List PkT} {n : Nat}
theorem KR.below (h : KR w0 B w M F many most T n) (hb : Below w.heap.size w w') : KR w0 B w' M F many most T n :=
  ⟨h.tab.below hb, h.ok, h.small, h.old, h.bel.trans (hb.mono h.sz), Nat.le_trans h.sz hb.size⟩
theorem KR.only (h : KR w0 B w M F many most T n) (ho : Only N w w') (hd : ∀ k, M k → N k → False) (hN : ∀ k, N k → B ≤ k) : KR w0 B w' M F many most T n :=
  ⟨h.tab.only ho hd, h.ok, h.small, h.old, h.bel.trans (ho.below h.sz hN), Nat.le_trans h.sz ho.size⟩
theorem kr_new (w0 w : World) (B : Nat) (many most : Int) (n : Nat) (hb : Below B w0 w) (hs : B ≤ w.heap.size) : KR w0 B (w.alloc (.cells #[.int .i64 many, .int .i64 most, .slice none 0 0] 118)) (fun k => k = w.heap.size) w.heap.size many most [] n :=
  ⟨tabr_new w many most, ⟨(fun k hk => by cases hk), by simp, by simp; omega⟩, by simp [Sz], (fun k hk => by rw [hk]; exact hs), hb.trans ((below_alloc w _).mono hs), by simp; omega⟩
def KrR (w0 : World) (B : Nat) (w : World) (M : Nat → Prop) (F : Nat) (many most : Int) (n : Nat) (T' : List PkT) (bs : List UInt8) (is : Bool) (d : Nat) (e : Ending) (w' : World) : Prop :=
  ∃ u M', e = .returned (.tuple #[u, .bool is, .int .i64 (d : Int)]) ∧ Own w' w.heap.size u bs ∧ KR w0 B w' M' F many most T' (n + 1) ∧ (∀ k, u.ownBlock = some k → ¬ M' k) ∧ Only M w w' ∧ (∀ k, M' k → M k ∨ w.heap.size ≤ k)
theorem kr_take (h : KR w0 B w M F many most T n) {p : PartD} {v : Value} {T' : List PkT} {bs : List UInt8} {is : Bool} {d : Nat} (hR : takeS many most T p = ⟨T', bs, is, d⟩)
    (hn : n ≤ 1048576) (hp : p.nm.fit) (hv : Bs w v p.bs) (hvM : p.bs ≠ [] → ∀ k, v.ownBlock = some k → ¬ M k) (hmost : most ≤ 9223372036854775807) (hpl : p.bs.length ≤ 1048576) :
    Calls Try.prog 52 #[.pointer (some ⟨F, 0, none⟩), .agg (partA p v)] w (KrR w0 B w M F many most n T' bs is d) := by
  refine (rtake_any w M F many most T p v h.tab hp hv hvM hmost h.ok (h.small.sm hn) hpl).mono ?_
  rintro e w' ⟨u, M', he, h1, h2, h3, h4, h5⟩
  have hok := takeS_ok (p := p) h.ok hp
  have hsz := takeS_sz (many := many) (most := most) h.small hpl
  rw [hR] at he h1 h2 hok hsz
  exact ⟨u, M', he, h1, ⟨h2, hok, hsz, fun k hk => (h3 k hk).elim (h.old k) (fun h6 => Nat.le_trans h.sz h6), h.bel.trans (h5.below h.sz h.old), Nat.le_trans h.sz h5.size⟩, h4, h5, h3⟩
theorem kr_live (h : KR w0 B w M F many most T n) (hn : n ≤ 1048576) : Calls Try.prog 54 #[.pointer (some ⟨F, 0, none⟩)] w (LiveRet w T) :=
  rlive_any w M F many most T h.tab h.ok (h.small.sm hn)
theorem KR.far (h : KR w0 B w M F many most T n) {v : Value} {bs : List UInt8} (hv : Bs w0 v bs) (hB : w0.heap.size ≤ B) : bs ≠ [] → ∀ k, v.ownBlock = some k → ¬ M k := fun hne k hk hm => by
  have := bs_lt hv hne k hk
  have := h.old k hm
  omega
theorem KR.bytes (h : KR w0 B w M F many most T n) {v : Value} {bs : List UInt8} (hv : Bs w0 v bs) (hB : w0.heap.size ≤ B) : Bs w v bs := hv.same fun p u hp => by
  have hlt := World.block_lt_of_cell? w0 p hp
  rw [h.bel.cell (Nat.lt_of_lt_of_le hlt hB)]; exact hp
end
end Go.Proofs.Ytnckmaieghlpmaa
