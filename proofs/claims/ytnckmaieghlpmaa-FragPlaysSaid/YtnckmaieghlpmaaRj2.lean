/-
  The reference's Take: boxes, rows that are made, appends.
-/
import Derived.Test.YtnckmaieghlpmaaRj
namespace Go.Proofs.Ytnckmaieghlpmaa
open Go.RowKit
set_option linter.unusedVariables false
set_option linter.unusedSimpArgs false

set_option maxRecDepth 100000 in
theorem run_slice137 (w : World) (p : PartD) (v : Value) (h : p.nm.ok) : (Instr.buildSlice 137 1 #[(0, .agg (partA p v))]).run Try.prog w = .ok (.slice (some ⟨w.heap.size, 0, none⟩) 1 1) (w.alloc (.cells (partA p v) 95)) := by
  obtain ⟨⟨s1, A1, s2, A2, p, i⟩, pos, more, bs⟩ := p
  obtain ⟨h1, h2⟩ := h
  obtain ⟨a0, a1, a2, a3, a4, a5, a6, a7, a8, a9, a10, a11, a12, a13, a14, a15, rfl⟩ := list16 A1 h1
  obtain ⟨b0, b1, b2, b3, b4, b5, b6, b7, b8, b9, b10, b11, b12, b13, b14, b15, rfl⟩ := list16 A2 h2
  kernel_rfl
section
variable {ev : Operand → Value} {dst : Option Tmp} {x y : Operand} {ty : TypeId} {pos : String} {aft : Array Edge} {g : Option (Tmp × Bool)} {w : World}
theorem fold_bs137 : (execOp ev ⟨dst, .buildSlice 137 1 #[(0, x)], ty, pos, aft, g⟩).run Try.prog w = bsA 137 w (ev x) := by
  simp [execOp, bsA, Sem.run_bind]
end
theorem bs137_at {w : World} {p : PartD} {v : Value} (h : p.nm.ok) : bsA 137 w (.agg (partA p v)) = .ok (.value (.slice (some ⟨w.heap.size, 0, none⟩) 1 1)) (w.alloc (.cells (partA p v) 95)) := by
  unfold bsA; rw [run_slice137 w p v h]; rfl
theorem info95m : (Try.prog.info? 95).map (fun i => (i.size, i.bytes, i.zero.map (·.cells.size))) = some (39, 80, some 39) := by kernel_rfl
theorem info95z : ∃ i z, Try.prog.info? 95 = some i ∧ i.zero = some z ∧ i.size = 39 ∧ i.bytes = 80 ∧ z.cells.size = 39 := info_take info95m

/-- a part in a box -/
def Box95 (wr : World) (x : PartD × Value) (g : Nat) (wx : World) : Prop := PtAt wx g 0 x.1 x.2 ∧ Below wr.heap.size wr wx
theorem box95_new (wr : World) (x : PartD × Value) {Z : Array Value} (hn : x.1.nm.ok) (hZ : Z.size = 39) : Box95 wr x wr.heap.size ((wr.alloc (.cells Z 95)).setCells wr.heap.size 0 (partL x.1 x.2)) :=
  ⟨World.rangeAt_setCells_same _ _ _ _ (free_spec.1 (by rw [partL_len hn, free_new1, hZ]; rfl)), below_sets (Nat.le_refl _) _ _ (below_alloc wr _)⟩

section
variable {w : World} {M : Nat → Prop} {F : Nat} {many most : Int} {T : List PkT} {p : PartD} {v : Value} {gp : Nat} {wx wy : World} {lv : Value} {L : List RkM}
theorem TabRL.slices (h : TabRL w M F many most lv L) : ∀ u ∈ L.map (·.v), ∃ a m c, u = .slice a m c := fun u hu => by
  obtain ⟨x, hx, rfl⟩ := List.mem_map.1 hu
  obtain ⟨a, c, e, _⟩ := ownsRow_shape (h.rows x hx).1
  exact ⟨a, _, c, e⟩
/-- without, at the table -/
theorem TabRL.less (h : TabRL w M F many most lv L) (hl : L.length ≤ 1048577) (i : Nat) : Calls Try.prog 82 #[lv, .int .i64 i] w fun e w' => (∃ lv', e = .returned lv' ∧ w'.ownsRow w.heap.size 137 1 lv' (L.eraseIdx i).length ((L.eraseIdx i).map (·.v))) ∧ Below w.heap.size w w' := by
  refine (without_any w lv L.length (L.map (·.v)) i h.own h.slices hl).mono ?_
  rintro e w' ⟨⟨lv', he, how⟩, hb⟩
  rw [map_v_erase, List.length_map] at how
  exact ⟨⟨lv', he, how⟩, hb⟩
/-- .. the cell that is written then -/
theorem TabRL.fcell (h : TabRL w M F many most lv L) (hb : Below w.heap.size w wy) : wy.cell? ⟨F, 2, none⟩ = some lv ∧ wy.frozen? ⟨F, 2, none⟩ = false := (h.below hb).cells.2.2
theorem RJ.setB (h : RJ w M F many most p v gp wx lv L) (hok : p.nm.ok) (v2 : Value) : RJ w M F many most p v2 gp (wx.setCell ⟨gp, 38, none⟩ v2) lv L := by
  have hn := h.noM wx
  have hs : wx.heap.size = (wx.setCell ⟨gp, 38, none⟩ v2).heap.size := by simp
  refine ⟨(h.tab.keep (w' := wx.setCell ⟨gp, 38, none⟩ v2) (fun k hk => heap_setCell_other _ _ _ _ (fun e => hn (by
      have e : k = gp := e
      rw [e] at hk; exact hk))) (by omega)).mono (fun k hk => hk.imp id (fun h => ⟨h.1, by omega⟩)) (fun k hk => ?_), ?_, ?_, ⟨h.ord.1, by have := h.ord.2; omega⟩, ?_, h.sub, h.inF⟩
  · rcases hk with hk | hk
    · have := h.sub k hk; have := h.only.size; omega
    · exact hk.2
  · have h1 := rangeAt_set h.cp 38 v2
    have e : (partL p v).set 38 v2 = partL p v2 := by
      unfold partL
      rw [List.set_append_right _ _ (by rw [nameL_len hok]; omega), nameL_len hok]; rfl
    rw [e] at h1
    exact h1
  · rw [World.frozen?_setCell]; exact h.fp
  · refine ⟨h.only.os, h.only.tape, h.only.output, by rw [← hs]; exact h.only.size, fun k hk hm => ?_⟩
    rw [heap_setCell_other _ _ _ _ (by have := h.ord.1; show k ≠ gp; omega)]
    exact h.only.block k hk hm
theorem rj_own (h : RJ w M F many most p v gp wx lv L) {v2 : Value} {bs : List UInt8} {w8 : World} (hb : Below wx.heap.size wx w8) (ho : Own w8 wx.heap.size v2 bs) : Own (w8.setCell ⟨gp, 38, none⟩ v2) 0 v2 bs ∧ ∀ k, v2.ownBlock = some k → Mx M gp (w8.setCell ⟨gp, 38, none⟩ v2) k := by
  have h2 := h.ord
  have hlt := fun k hk => World.ownsRow.lt ho k hk
  refine ⟨ownsRow_keep (ownsRow_base ho (fun k _ => Nat.zero_le k)) (fun k hk => heap_setCell_other _ _ _ _ ?_), fun k hk => .inr ⟨?_, ?_⟩⟩
  · show k ≠ gp
    have := hlt k hk; omega
  · have := hlt k hk; omega
  · have := hlt k hk; simp; omega
/-- p's copy with bytes of its own -/
def OwnP (M : Nat → Prop) (gp : Nat) (p : PartD) (v : Value) (wx : World) : Prop := Own wx 0 v p.bs ∧ ∀ k, v.ownBlock = some k → Mx M gp wx k
theorem OwnP.below (h : OwnP M gp p v wx) (hb : Below wx.heap.size wx wy) : OwnP M gp p v wy := ⟨Own.below h.1 hb, fun k hk => (h.2 k hk).imp id (fun h => ⟨h.1, by have := hb.size; omega⟩)⟩
theorem rj_gone (h : RJ w M F many most p v gp wx lv L) (hO : OwnP M gp p v wx) (i : Nat) {lv' : Value} {w1 : World} (how : w1.ownsRow wx.heap.size 137 1 lv' (L.eraseIdx i).length ((L.eraseIdx i).map (·.v))) (hb : Below wx.heap.size wx w1) :
    RJ w M F many most p v gp (w1.setCell ⟨F, 2, none⟩ lv') lv' (L.eraseIdx i) ∧ OwnP M gp p v (w1.setCell ⟨F, 2, none⟩ lv') := by
  obtain ⟨ht, ho⟩ := rgone h.tab i how hb
  have hn := h.noM wx
  have hs1 := ho.size
  have hs : w1.heap.size = (w1.setCell ⟨F, 2, none⟩ lv').heap.size := by simp
  have h1 := h.below hb
  have hFg : gp ≠ F := fun e => hn (by rw [e]; exact .inl h.inF)
  have hO1 := hO.below hb
  refine ⟨⟨ht.mono (mx_up h.ord.2 (fun k hk => hk.imp id (fun h => ⟨h.1, by omega⟩)) hs1) (mx_lt h.sub (by have := h.only.size; omega)), fun j u hu => ?_, ?_, ⟨h.ord.1, by have := h.ord.2; omega⟩, (h.only.then hb).setCell (p := ⟨F, 2, none⟩) h.inF lv', h.sub, h.inF⟩, ownsRow_keep hO1.1 (fun k hk => heap_setCell_other _ _ _ _ ?_), fun k hk => (hO1.2 k hk).imp id (fun h => ⟨h.1, by omega⟩)⟩
  · rw [World.cell?_setCell_other w1 ⟨F, 2, none⟩ _ _ (fun e => hFg (congrArg Addr.block e).symm)]
    exact h1.cp j u hu
  · rw [World.frozen?_setCell]; exact h1.fp
  · obtain ⟨cur, hc⟩ := ownsRow_type hO1.1 hk
    exact type_apart hc h1.tab.blk (by decide)
/-- a packet is appended -/
theorem rapp_run (hown : wx.ownsRow 0 137 1 lv L.length (L.map (·.v))) (hl : L.length ≤ 1048576) (p : PartD) (v : Value) :
    ∃ v' w', (Builtin.append_ #[116, 116] 116 #[lv, .slice (some ⟨wx.heap.size + 1, 0, none⟩) 1 1]).run Try.prog ((wx.alloc (.cells (partA p v) 95)).alloc (.cells #[.slice (some ⟨wx.heap.size, 0, none⟩) 1 1] 137)).drew = .ok v' w' ∧
      w'.ownsRow 0 137 1 v' (L.length + 1) (L.map (·.v) ++ [.slice (some ⟨wx.heap.size, 0, none⟩) 1 1]) ∧ ((wx.alloc (.cells (partA p v) 95)).alloc (.cells #[.slice (some ⟨wx.heap.size, 0, none⟩) 1 1] 137)).grownBy w' lv.ownBlock ∧
      (v'.ownBlock = lv.ownBlock ∨ v'.ownBlock = some ((wx.alloc (.cells (partA p v) 95)).alloc (.cells #[.slice (some ⟨wx.heap.size, 0, none⟩) 1 1] 137)).heap.size) := by
  obtain ⟨i137, hi, hz, hsize, hby⟩ := info_parts info137m
  obtain ⟨v', w', h1, h2, h3, h4, h5⟩ := run_append_own_at (P := Try.prog) ((wx.alloc (.cells (partA p v) 95)).alloc (.cells #[.slice (some ⟨wx.heap.size, 0, none⟩) 1 1] 137)).drew 0 116 116 137 i137 (.slice none 0 0) 1 24 Try.underlying116 hi hz hsize hby rfl (by decide) lv L.length _ ((hown.alloc _).alloc _) ⟨wx.heap.size + 1, 0, none⟩ 1 1 [.slice (some ⟨wx.heap.size, 0, none⟩) 1 1] rfl
    (fun j u hu => by
      rw [Addr.add_lit]
      have := World.cell?_alloc_mark (wx.alloc (.cells (partA p v) 95)) #[.slice (some ⟨wx.heap.size, 0, none⟩) 1 1] 137 (0, 0) (0 + j)
      rw [size_alloc] at this
      rw [show (((wx.alloc (.cells (partA p v) 95)).alloc (.cells #[.slice (some ⟨wx.heap.size, 0, none⟩) 1 1] 137)).drew).cell? ⟨wx.heap.size + 1, 0 + j, none⟩ = ((wx.alloc (.cells (partA p v) 95)).alloc (.cells #[.slice (some ⟨wx.heap.size, 0, none⟩) 1 1] 137)).cell? ⟨wx.heap.size + 1, 0 + j, none⟩ from by simp, this, Nat.zero_add, ← Array.getElem?_toList]
      exact hu) (by simp; rfl) (by unfold maxLen; omega) (by omega) (Nat.zero_le _)
  exact ⟨v', w', h1, h2, grown_drew h3, h5⟩
/-- a part is appended to its packet's row -/
theorem rins_run {xv : Value} {ps : List (PartD × Value)} (hown : wx.ownsRow 0 95 39 xv ps.length (ptRow ps)) (hl : ps.length ≤ 1048576) {p : PartD} {v : Value} (hok : p.nm.ok) (hv : v.oneCell' = true) :
    ∃ v' w', (Builtin.append_ #[137, 137] 137 #[xv, .slice (some ⟨wx.heap.size, 0, none⟩) 1 1]).run Try.prog (wx.alloc (.cells (partA p v) 95)).drew = .ok v' w' ∧
      w'.ownsRow 0 95 39 v' (ps.length + 1) (ptRow ps ++ partL p v) ∧ (wx.alloc (.cells (partA p v) 95)).grownBy w' xv.ownBlock ∧ (v'.ownBlock = xv.ownBlock ∨ v'.ownBlock = some (wx.heap.size + 1)) := by
  obtain ⟨i95, z95, hi, hz, hsize, hby, hzs⟩ := info95z
  obtain ⟨v', w', h1, h2, h3, h4, h5⟩ := run_append_own_at (P := Try.prog) (wx.alloc (.cells (partA p v) 95)).drew 0 137 137 95 i95 z95 39 80 Try.underlying137 hi hz hsize hby hzs (by decide) xv ps.length _ (hown.alloc _) ⟨wx.heap.size, 0, none⟩ 1 1 (partL p v) (by rw [partL_len hok])
    (fun j u hu => by
      rw [Addr.add_lit]
      exact (ptAt_new wx p v 95).below (drew_below _) j u hu) (fun u hu => by
      have := partA_one (p := p) hv
      exact Array.all_eq_true_iff_forall_mem.1 this u (by simpa [partA] using hu)) (by unfold maxLen; omega) (by omega) (Nat.zero_le _)
  exact ⟨v', w', h1, h2, grown_drew h3, h5.imp id (fun h => by simpa using h)⟩
end
end Go.Proofs.Ytnckmaieghlpmaa
