/-
  What the walk of the reference's Take carries along.
-/
import Derived.Test.YtnckmaieghlpmaaRf6
import Derived.Deep.DeepCutAuto
namespace Go.Proofs.Ytnckmaieghlpmaa
open Go.RowKit
set_option linter.unusedVariables false
set_option linter.unusedSimpArgs false

/-- what the reference's Take hands back and leaves -/
def RTakeRet (w : World) (M : Nat → Prop) (F : Nat) (many most : Int) (T : List PkT) (p : PartD) (e : Ending) (w' : World) : Prop :=
  ∃ u M', e = .returned (.tuple #[u, .bool (takeS many most T p).is, .int .i64 ((takeS many most T p).drop : Int)]) ∧ Own w' w.heap.size u (takeS many most T p).bs ∧ TabR w' M' F many most (takeS many most T p).T ∧ (∀ k, M' k → M k ∨ w.heap.size ≤ k) ∧ (∀ k, u.ownBlock = some k → ¬ M' k) ∧ Only M w w'
/-- where the walk stands: the table, the box of p -/
structure RJ (w : World) (M : Nat → Prop) (F : Nat) (many most : Int) (p : PartD) (v : Value) (gp : Nat) (wx : World) (lv : Value) (L : List RkM) : Prop where
  tab : TabRL wx (Mx M gp wx) F many most lv L
  cp : PtAt wx gp 0 p v
  fp : wx.frozen? ⟨gp, 38, none⟩ = false
  ord : w.heap.size ≤ gp ∧ gp < wx.heap.size
  only : Only M w wx
  sub : ∀ k, M k → k < w.heap.size
  inF : M F
section
variable {w : World} {M : Nat → Prop} {F : Nat} {many most : Int} {T : List PkT} {p : PartD} {v : Value} {gp : Nat} {wx wy : World} {lv : Value} {L : List RkM}
theorem rj_new (h : TabRL w M F many most lv L) (hb : Below (w.alloc (.cells (partA p v) 95)).heap.size (w.alloc (.cells (partA p v) 95)) wx) : RJ w M F many most p v w.heap.size wx lv L := by
  have hb1 : Below w.heap.size w wx := (below_alloc w _).then hb
  have hs := hb.size
  simp only [size_alloc] at hs
  refine ⟨(h.below hb1).mono (fun k hk => .inl hk) (fun k hk => ?_), (ptAt_new w p v 95).below hb, ?_, ⟨Nat.le_refl _, by omega⟩, .of_below hb1, h.sub, h.inF⟩
  · rcases hk with hk | hk
    · have := h.sub k hk; omega
    · exact hk.2
  · rw [hb.frozen (p := ⟨w.heap.size, 38, none⟩) (by simp)]
    exact World.frozen?_alloc_new (w := w) (partA p v) 95 38
theorem RJ.noM (h : RJ w M F many most p v gp wx lv L) (wz : World) : ¬ Mx M gp wz gp := by
  rintro (e | e)
  · have := h.sub _ e; have := h.ord.1; omega
  · omega
theorem RJ.below (h : RJ w M F many most p v gp wx lv L) (hb : Below wx.heap.size wx wy) : RJ w M F many most p v gp wy lv L := by
  have hs := hb.size
  have ht := h.tab.below hb
  refine ⟨ht.mono (fun k hk => hk.imp id (fun h => ⟨h.1, by omega⟩)) (fun k hk => ?_), h.cp.below hb, (hb.frozen (p := ⟨gp, 38, none⟩) h.ord.2).trans h.fp, ⟨h.ord.1, by have := h.ord.2; omega⟩, h.only.then hb, h.sub, h.inF⟩
  rcases hk with hk | hk
  · exact ht.sub k (.inl hk)
  · exact hk.2
/-- the table is as it was, nothing is told -/
theorem rj_end (h : RJ w M F many most p v gp wx lv L) {d : Nat} (hs : takeS many most T p = ⟨L.map RkM.T, [], false, d⟩) {e : Ending} (he : e = .returned (.tuple #[.slice none 0 0, .bool false, .int .i64 (d : Int)])) (hb : Below wx.heap.size wx wy) : RTakeRet w M F many most T p e wy := by
  have h := h.below hb
  unfold RTakeRet
  rw [hs]
  exact ⟨.slice none 0 0, Mx M gp wy, he, own_nil _ _, ⟨lv, L, h.tab, rfl⟩, mx_old h.ord.1, (fun k hk => by cases hk), h.only⟩
/-- a packet is gone, perhaps told whole -/
theorem rgone_ret {N : Nat → Prop} (tab : TabRL wx N F many most lv L) (hN : ∀ k, N k → M k ∨ w.heap.size ≤ k) (only : Only M w wx) (hF : M F) (i : Nat) {lv' : Value} {w1 : World} (how : w1.ownsRow wx.heap.size 137 1 lv' (L.eraseIdx i).length ((L.eraseIdx i).map (·.v))) (hb : Below wx.heap.size wx w1)
    {bs : List UInt8} {is : Bool} {d : Nat} (hs : takeS many most T p = ⟨(L.map RkM.T).eraseIdx i, bs, is, d⟩) {u : Value} (hu : Own wx w.heap.size u bs) (hun : ∀ k, u.ownBlock = some k → ¬ N k) {e : Ending} (he : e = .returned (.tuple #[u, .bool is, .int .i64 (d : Int)])) : RTakeRet w M F many most T p e (w1.setCell ⟨F, 2, none⟩ lv') := by
  obtain ⟨ht, _⟩ := rgone tab i how hb
  unfold RTakeRet
  rw [hs]
  refine ⟨u, _, he, ownsRow_keep hu (fun k hk => ?_), ⟨lv', _, ht, (map_erase _ _ _).symm⟩, fun k hk => ?_, fun k hk hm => ?_, (only.then hb).setCell (p := ⟨F, 2, none⟩) hF lv'⟩
  · have hlt := World.ownsRow.lt hu k hk
    rw [heap_setCell_other _ _ _ _ (fun e => hun k hk (by
      have e : k = F := e
      rw [e]; exact tab.inF))]
    exact hb.block k hlt.2
  · rcases hk with hk | hk
    · exact hN k hk
    · have := only.size; exact .inr (by omega)
  · rcases hm with hm | hm
    · exact hun k hk hm
    · have := World.ownsRow.lt hu k hk; omega
theorem any_perm {l m : List PartD} (h : l.Perm m) (f : PartD → Bool) : l.any f = m.any f := by
  rw [Bool.eq_iff_iff, List.any_eq_true, List.any_eq_true]
  exact ⟨fun ⟨x, hx, hf⟩ => ⟨x, h.subset hx, hf⟩, fun ⟨x, hx, hf⟩ => ⟨x, h.symm.subset hx, hf⟩⟩
theorem any_no {L : List (PartD × Value)} {S : List PartD} (hs : (L.map (·.1)).Perm S) {f : PartD → Bool} (h : ∀ (j : Nat) (z : PartD × Value), L[j]? = some z → f z.1 = false) : S.any f = false := by
  rw [← any_perm hs, List.any_eq_false]
  intro q hq
  obtain ⟨z, hz, rfl⟩ := List.mem_map.1 hq
  obtain ⟨j, hj⟩ := List.getElem?_of_mem hz
  rw [h j z hj]; simp
theorem any_yes {L : List (PartD × Value)} {S : List PartD} (hs : (L.map (·.1)).Perm S) {f : PartD → Bool} {z : PartD × Value} (hz : z ∈ L) (hf : f z.1 = true) : S.any f = true := by
  rw [← any_perm hs, List.any_eq_true]
  exact ⟨z.1, List.mem_map_of_mem hz, hf⟩
theorem rix_none {L : List RkM} {n : NameD} (h : findPk (L.map RkM.T) n = none) : ixR (fun x : RkM => decide (x.nm = n)) L = -1 := by
  refine ixR_none (fun j x hx => ?_)
  have := find_none h x.T (List.mem_map_of_mem (List.mem_of_getElem? hx))
  exact decide_eq_false this
theorem rix_some {L : List RkM} {n : NameD} {i : Nat} (h : findPk (L.map RkM.T) n = some i) : ixR (fun x : RkM => decide (x.nm = n)) L = i ∧ ∃ x, L[i]? = some x ∧ x.nm = n := by
  obtain ⟨hi, h1, h2⟩ := List.findIdx?_eq_some_iff_getElem.1 h
  have hi' : i < L.length := by simpa using hi
  have e : ((L.map RkM.T)[i]).1 = L[i].nm := by rw [List.getElem_map]; rfl
  have hx : L[i].nm = n := by simp only [decide_eq_true_eq] at h1; rw [← e]; exact h1
  refine ⟨ixR_some (List.getElem?_eq_getElem hi') (decide_eq_true hx) (fun j y hy hj => ?_), L[i], List.getElem?_eq_getElem hi', hx⟩
  have := h2 j hj
  have hjl := (List.getElem?_eq_some_iff.1 hy)
  obtain ⟨hjl, rfl⟩ := hjl
  simp only [List.getElem_map, RkM.T] at this
  simpa using this
theorem rtake_none {d : Nat} (hf : findPk T p.nm = none) (hm : ¬ many < 1) (hmay : mayB most p = true) : takeS many most T p = stepIn (roomed many T ++ [(p.nm, [])]) (roomed many T).length p.nm [] p := by
  unfold takeS
  rw [if_neg hm, if_neg (by rw [hmay]; simp), hf]
theorem rtake_some {i : Nat} {x : RkM} (hx : L[i]? = some x) (hf : findPk (L.map RkM.T) p.nm = some i) (hm : ¬ many < 1) (hmay : mayB most p = true) : takeS many most (L.map RkM.T) p = stepIn (L.map RkM.T) i p.nm x.S p := by
  unfold takeS
  rw [if_neg hm, if_neg (by rw [hmay]; simp), hf]
  have : psAt (L.map RkM.T) i = x.S := by
    unfold psAt
    rw [List.getElem?_map, hx]; rfl
  simp only [this]
/-- the part is in: what is asked now is whether its packet is whole -/
structure RJ3 (w : World) (M : Nat → Prop) (F : Nat) (many most : Int) (T : List PkT) (p : PartD) (gp : Nat) (wx : World) (lv : Value) (L : List RkM) (i : Nat) (x : RkM) : Prop where
  tab : TabRL wx (Mx M gp wx) F many most lv L
  at_ : L[i]? = some x
  ok : x.ps ≠ [] ∧ ∀ z ∈ x.ps, z.1.nm.ok ∧ z.1.bs.length ≤ 1048576
  seq : Seq most x.S
  step : takeS many most T p = (if wholeB x.S = true then ⟨(L.map RkM.T).eraseIdx i, joinB x.S, true, 0⟩ else ⟨L.map RkM.T, [], false, 7⟩)
  ord : w.heap.size ≤ gp ∧ gp < wx.heap.size
  only : Only M w wx
  sub : ∀ k, M k → k < w.heap.size
  inF : M F
  len : L.length ≤ 1048577 ∧ x.ps.length ≤ 1048577
def RJ3e (w : World) (M : Nat → Prop) (F : Nat) (many most : Int) (T : List PkT) (p : PartD) (gp i : Nat) (wx : World) : Prop := ∃ lv L x, RJ3 w M F many most T p gp wx lv L i x
theorem RJ3.below {i : Nat} {x : RkM} (h : RJ3 w M F many most T p gp wx lv L i x) (hb : Below wx.heap.size wx wy) : RJ3 w M F many most T p gp wy lv L i x := by
  have hs := hb.size
  have ht := h.tab.below hb
  refine ⟨ht.mono (fun k hk => hk.imp id (fun h => ⟨h.1, by omega⟩)) (fun k hk => ?_), h.at_, h.ok, h.seq, h.step, ⟨h.ord.1, by have := h.ord.2; omega⟩, h.only.then hb, h.sub, h.inF, h.len⟩
  rcases hk with hk | hk
  · exact ht.sub k (.inl hk)
  · exact hk.2
theorem mx_up {N : Nat → Prop} (hgp : gp < wx.heap.size) (hN : ∀ k, N k → Mx M gp wx k ∨ (wx.heap.size ≤ k ∧ k < wy.heap.size)) (hs : wx.heap.size ≤ wy.heap.size) : ∀ k, N k → Mx M gp wy k := fun k hk => by
  rcases hN k hk with (h | h) | h
  · exact .inl h
  · exact .inr ⟨h.1, by omega⟩
  · exact .inr ⟨by omega, h.2⟩
theorem mx_lt (hM : ∀ k, M k → k < w.heap.size) (hs : w.heap.size ≤ wy.heap.size) : ∀ k, Mx M gp wy k → k < wy.heap.size := fun k hk => by
  rcases hk with hk | hk
  · have := hM k hk; omega
  · exact hk.2
theorem insPt_nil (p : PartD) : insPt p [] = [p] := by simp [insPt]
/-- a packet was begun -/
theorem rj3_app {v2 : Value} (h : RJ w M F many most p v2 gp wx lv L) (hok : p.nm.ok) (hmay : mayB most p = true) (hpl : p.bs.length ≤ 1048576) (hv : Own wx 0 v2 p.bs ∧ ∀ k, v2.ownBlock = some k → Mx M gp wx k) (hvs : ∀ x ∈ L, x.v.ownBlock ≠ none) (hlen : L.length ≤ 1048576)
    (hT : L.map RkM.T = roomed many T) (hst : takeS many most T p = stepIn (roomed many T ++ [(p.nm, [])]) (roomed many T).length p.nm [] p)
    {lv' : Value} {w1 wb : World} (hwb : wb = (wx.alloc (.cells (partA p v2) 95)).alloc (.cells #[.slice (some ⟨wx.heap.size, 0, none⟩) 1 1] 137))
    (how : w1.ownsRow 0 137 1 lv' (L.length + 1) (L.map (·.v) ++ [.slice (some ⟨wx.heap.size, 0, none⟩) 1 1])) (hgr : wb.grownBy w1 lv.ownBlock) (hob : lv'.ownBlock = lv.ownBlock ∨ lv'.ownBlock = some wb.heap.size) :
    RJ3 w M F many most T p gp (w1.setCell ⟨F, 2, none⟩ lv') lv' (L ++ [⟨p.nm, [p], .slice (some ⟨wx.heap.size, 0, none⟩) 1 1, [(p, v2)]⟩]) L.length ⟨p.nm, [p], .slice (some ⟨wx.heap.size, 0, none⟩) 1 1, [(p, v2)]⟩ := by
  obtain ⟨ht, ho⟩ := rapp (c := 0) h.tab hv hok hvs hwb how hgr hob
  have hs1 := ho.size
  have hs : w1.heap.size = (w1.setCell ⟨F, 2, none⟩ lv').heap.size := by simp
  refine ⟨ht.mono (mx_up h.ord.2 (fun k hk => hk.imp id (fun h => ⟨h.1, by omega⟩)) hs1) (mx_lt h.sub (by have := h.only.size; omega)), by simp, ⟨by simp, fun z hz => ?_⟩, ⟨fun q hq => ?_, List.pairwise_singleton _ _⟩, ?_, ⟨h.ord.1, by have := h.ord.2; omega⟩, h.only.trans ho (fun k hk hm => hm.elim id (fun h2 => by have := h.ord.1; omega)), h.sub, h.inF, ?_⟩
  · simp at hz; subst hz; exact ⟨hok, hpl⟩
  · simp at hq; subst hq; exact hmay
  · rw [hst]
    unfold stepIn
    rw [if_neg (by simp), if_neg (by simp), insPt_nil]
    have e1 : (L ++ [(⟨p.nm, [p], .slice (some ⟨wx.heap.size, 0, none⟩) 1 1, [(p, v2)]⟩ : RkM)]).map RkM.T = roomed many T ++ [(p.nm, [p])] := by rw [List.map_append, hT]; rfl
    have e2 : L.length = (roomed many T).length := by rw [← hT, List.length_map]
    rw [e1, e2]
    have e3 : (roomed many T ++ [(p.nm, ([] : List PartD))]).eraseIdx (roomed many T).length = (roomed many T ++ [(p.nm, [p])]).eraseIdx (roomed many T).length := by
      rw [List.eraseIdx_append_of_length_le (Nat.le_refl _), List.eraseIdx_append_of_length_le (Nat.le_refl _)]; simp
    have e4 : (roomed many T ++ [(p.nm, ([] : List PartD))]).set (roomed many T).length (p.nm, [p]) = roomed many T ++ [(p.nm, [p])] := by
      rw [List.set_append_right _ _ (Nat.le_refl _)]; simp
    rw [e3, e4]
  · rw [List.length_append]
    exact ⟨by simp; omega, by simp⟩
/-- the part came to a packet that had begun -/
theorem rj3_ins {v2 : Value} (h : RJ w M F many most p v2 gp wx lv L) (hO : OkT many most (L.map RkM.T)) (hok : p.nm.ok) (hmay : mayB most p = true) (hpl : p.bs.length ≤ 1048576) (hv : Own wx 0 v2 p.bs ∧ ∀ k, v2.ownBlock = some k → Mx M gp wx k) (hlen : L.length ≤ 1048577)
    {i gl n c : Nat} {x : RkM} (hx : L[i]? = some x) (hxl : x.ps.length ≤ 1048576 ∧ ∀ z ∈ x.ps, z.1.bs.length ≤ 1048576) (hlv : lv = .slice (some ⟨gl, 0, none⟩) n c) (hxn : x.nm = p.nm)
    (hst : takeS many most (L.map RkM.T) p = stepIn (L.map RkM.T) i p.nm x.S p) (hsame : x.S.any (sameB p) = false) (hcl : x.S.any (clashB p) = false)
    {v' : Value} {w1 : World} (how : w1.ownsRow 0 95 39 v' (x.ps.length + 1) (ptRow x.ps ++ partL p v2)) (hgr : (wx.alloc (.cells (partA p v2) 95)).grownBy w1 x.v.ownBlock) (hob : v'.ownBlock = x.v.ownBlock ∨ v'.ownBlock = some (wx.heap.size + 1)) :
    RJ3 w M F many most (L.map RkM.T) p gp (w1.setCell ⟨gl, i, none⟩ v') lv (L.set i ⟨x.nm, insPt p x.S, v', x.ps ++ [(p, v2)]⟩) i ⟨x.nm, insPt p x.S, v', x.ps ++ [(p, v2)]⟩ := by
  have hxm := List.mem_of_getElem? hx
  have hil := (List.getElem?_eq_some_iff.1 hx).1
  have hpt := h.tab.part hO hxm
  obtain ⟨ht, ho⟩ := rins h.tab hx hlv hv how hgr hob hpt.1 (insPt_perm p x.S).symm
  have hs1 := ho.size
  have hs : w1.heap.size = (w1.setCell ⟨gl, i, none⟩ v').heap.size := by simp
  have hk := (hO.ok x.T (List.mem_map_of_mem hxm)).1
  refine ⟨ht.mono (mx_up h.ord.2 (fun k hk => hk.imp id (fun h => ⟨h.1, by omega⟩)) hs1) (mx_lt h.sub (by have := h.only.size; omega)), by rw [List.getElem?_set]; simp [hil], ⟨by simp, fun z hz => ?_⟩, ⟨fun q hq => ?_, insPt_apart hmay hk.may hk.apart hcl⟩, ?_, ⟨h.ord.1, by have := h.ord.2; omega⟩, h.only.trans ho (fun k hk hm => hm.elim id (fun h2 => by have := h.ord.1; omega)), h.sub, h.inF, ?_⟩
  · rcases List.mem_append.1 hz with hz | hz
    · exact ⟨by rw [(hpt.2.2 z hz).1]; exact hpt.2.1.1, hxl.2 z hz⟩
    · simp at hz; subst hz; exact ⟨hok, hpl⟩
  · rcases insPt_mem.1 hq with rfl | hq
    · exact hmay
    · exact hk.may q hq
  · rw [hst]
    unfold stepIn
    rw [if_neg (by rw [hsame]; simp), if_neg (by rw [hcl]; simp)]
    have e1 : (L.set i ⟨x.nm, insPt p x.S, v', x.ps ++ [(p, v2)]⟩).map RkM.T = (L.map RkM.T).set i (p.nm, insPt p x.S) := by
      rw [List.map_set, hxn.symm]; rfl
    rw [e1, erase_set]
  · rw [List.length_set, List.length_append]
    exact ⟨hlen, by simp; omega⟩
end
end Go.Proofs.Ytnckmaieghlpmaa
