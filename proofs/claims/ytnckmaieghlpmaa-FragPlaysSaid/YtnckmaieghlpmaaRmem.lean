/-
  The reference's table in memory: its blocks, what it keeps; a packet goes, a packet comes, a part comes.
-/
import Derived.Test.YtnckmaieghlpmaaRf2
import Derived.Test.YtnckmaieghlpmaaZ7
namespace Go.Proofs.Ytnckmaieghlpmaa
open Go.RowKit
set_option linter.unusedVariables false

/-- a packet of the reference in memory: S its parts in order, ps as they came -/
structure RkM where
  nm : NameD
  S : List PartD
  v : Value
  ps : List (PartD × Value)
def RkM.T (x : RkM) : PkT := (x.nm, x.S)
structure TabRL (w : World) (M : Nat → Prop) (F : Nat) (many most : Int) (lv : Value) (L : List RkM) : Prop where
  blk : w.heap[F]? = some (.cells #[.int .i64 many, .int .i64 most, lv] 118 (0, 0))
  inF : M F
  own : w.ownsRow 0 137 1 lv L.length (L.map (·.v))
  inl : ∀ k, lv.ownBlock = some k → M k
  rows : ∀ x ∈ L, w.ownsRow 0 95 39 x.v x.ps.length (ptRow x.ps) ∧ ∀ k, x.v.ownBlock = some k → M k
  bs : ∀ x ∈ L, ∀ y ∈ x.ps, Own w 0 y.2 y.1.bs ∧ ∀ k, y.2.ownBlock = some k → M k
  sim : ∀ x ∈ L, (x.ps.map (·.1)).Perm x.S
  apart : L.Pairwise fun x y => x.v.ownBlock ≠ y.v.ownBlock
  sub : ∀ k, M k → k < w.heap.size
/-- the table behind pointer F is T -/
def TabR (w : World) (M : Nat → Prop) (F : Nat) (many most : Int) (T : List PkT) : Prop := ∃ lv L, TabRL w M F many most lv L ∧ L.map RkM.T = T

section
variable {w w' : World} {M N : Nat → Prop} {F : Nat} {many most : Int} {lv : Value} {L : List RkM} {T : List PkT}
theorem TabRL.keep (h : TabRL w M F many most lv L) (hb : ∀ k, M k → w'.heap[k]? = w.heap[k]?) (hs : w.heap.size ≤ w'.heap.size) : TabRL w' M F many most lv L :=
  ⟨(hb F h.inF).trans h.blk, h.inF, ownsRow_keep h.own (fun k hk => hb k (h.inl k hk)), h.inl, fun x hx => ⟨ownsRow_keep (h.rows x hx).1 (fun k hk => hb k ((h.rows x hx).2 k hk)), (h.rows x hx).2⟩,
    fun x hx y hy => ⟨ownsRow_keep (h.bs x hx y hy).1 (fun k hk => hb k ((h.bs x hx y hy).2 k hk)), (h.bs x hx y hy).2⟩, h.sim, h.apart, fun k hk => Nat.lt_of_lt_of_le (h.sub k hk) hs⟩
theorem TabRL.mono {M' : Nat → Prop} (h : TabRL w M F many most lv L) (hM : ∀ k, M k → M' k) (hs : ∀ k, M' k → k < w.heap.size) : TabRL w M' F many most lv L :=
  ⟨h.blk, hM _ h.inF, h.own, fun k hk => hM k (h.inl k hk), fun x hx => ⟨(h.rows x hx).1, fun k hk => hM k ((h.rows x hx).2 k hk)⟩, fun x hx y hy => ⟨(h.bs x hx y hy).1, fun k hk => hM k ((h.bs x hx y hy).2 k hk)⟩, h.sim, h.apart, hs⟩
theorem TabRL.below (h : TabRL w M F many most lv L) (hb : Below w.heap.size w w') : TabRL w' M F many most lv L :=
  h.keep (fun k hk => hb.block k (h.sub k hk)) hb.size
theorem TabRL.only (h : TabRL w M F many most lv L) (hb : Only N w w') (hd : ∀ k, M k → N k → False) : TabRL w' M F many most lv L :=
  h.keep (fun k hk => hb.block k (h.sub k hk) (fun hn => hd k hk hn)) hb.size
theorem TabR.keep (h : TabR w M F many most T) (hb : ∀ k, M k → w'.heap[k]? = w.heap[k]?) (hs : w.heap.size ≤ w'.heap.size) : TabR w' M F many most T :=
  let ⟨lv, L, h, e⟩ := h; ⟨lv, L, h.keep hb hs, e⟩
theorem TabR.below (h : TabR w M F many most T) (hb : Below w.heap.size w w') : TabR w' M F many most T :=
  let ⟨lv, L, h, e⟩ := h; ⟨lv, L, h.below hb, e⟩
theorem TabR.only (h : TabR w M F many most T) (hb : Only N w w') (hd : ∀ k, M k → N k → False) : TabR w' M F many most T :=
  let ⟨lv, L, h, e⟩ := h; ⟨lv, L, h.only hb hd, e⟩
theorem TabR.sub (h : TabR w M F many most T) : ∀ k, M k → k < w.heap.size := let ⟨_, _, h, _⟩ := h; h.sub
theorem TabRL.cells (h : TabRL w M F many most lv L) :
    w.cell? ⟨F, 0, none⟩ = some (.int .i64 many) ∧ w.cell? ⟨F, 1, none⟩ = some (.int .i64 most) ∧ w.cell? ⟨F, 2, none⟩ = some lv ∧ w.frozen? ⟨F, 2, none⟩ = false := by
  refine ⟨?_, ?_, ?_, ?_⟩
  · rw [cell_of_row w F 0 _ _ _ h.blk]; rfl
  · rw [cell_of_row w F 1 _ _ _ h.blk]; rfl
  · rw [cell_of_row w F 2 _ _ _ h.blk]; rfl
  · simp [World.frozen?, h.blk]
/-- an empty table -/
theorem tabr_new (w : World) (many most : Int) : TabR (w.alloc (.cells #[.int .i64 many, .int .i64 most, .slice none 0 0] 118)) (fun k => k = w.heap.size) w.heap.size many most [] := by
  refine ⟨.slice none 0 0, [], ⟨heap_alloc_new w _, rfl, World.ownsRow_nil _ _ _ _, fun k hk => (by cases hk), fun x hx => (by cases hx), fun x hx => (by cases hx), fun x hx => (by cases hx), List.Pairwise.nil, fun k hk => ?_⟩, rfl⟩
  rw [hk]; simp
theorem TabRL.noF (h : TabRL w M F many most lv L) {k : Nat} (hk : lv.ownBlock = some k) : k ≠ F := by
  obtain ⟨cur, hc⟩ := ownsRow_type h.own hk
  exact type_apart hc h.blk (by decide)
/-- a row's cells, with no parts' names asked -/
theorem own_range {base e size : Nat} {v : Value} {n : Nat} {xs : List Value} (h : w.ownsRow base e size v n xs) {g c m : Nat} (hv : v = .slice (some ⟨g, 0, none⟩) m c) {j : Nat} {u : Value} (hj : xs[j]? = some u) : w.cell? ⟨g, j, none⟩ = some u := by
  have := h.cells (g := g) (by rw [hv]; rfl) j u hj
  rw [Addr.add_lit, Nat.zero_add] at this
  exact this
/-- the row's own cell: packet number i -/
theorem TabRL.shape (h : TabRL w M F many most lv L) {i : Nat} {x : RkM} (hx : L[i]? = some x) : ∃ gl c, lv = .slice (some ⟨gl, 0, none⟩) L.length c ∧ L.length ≤ c ∧ c ≤ 9223372036854775807 ∧ M gl ∧ ∀ j y, L[j]? = some y → w.cell? ⟨gl, j, none⟩ = some y.v := by
  have hil := (List.getElem?_eq_some_iff.1 hx).1
  obtain ⟨gl, c, e, h1, h2⟩ := own_some h.own (by omega)
  refine ⟨gl, c, e, h1, h2, h.inl gl (by rw [e]; rfl), fun j y hy => own_range h.own e (by rw [List.getElem?_map, hy]; rfl)⟩
theorem TabRL.lvshape (h : TabRL w M F many most lv L) : ∃ a c, lv = .slice a L.length c ∧ L.length ≤ c ∧ c ≤ 9223372036854775807 := ownsRow_shape h.own

theorem map_v_erase (L : List RkM) (i : Nat) : (L.map (·.v)).eraseIdx i = (L.eraseIdx i).map (·.v) := map_erase _ _ _
/-- a packet goes: the row is a new one -/
theorem rgone (h : TabRL w M F many most lv L) (i : Nat) {lv' : Value} {w1 : World} (how : w1.ownsRow w.heap.size 137 1 lv' (L.eraseIdx i).length ((L.eraseIdx i).map (·.v))) (hb : Below w.heap.size w w1) :
    TabRL (w1.setCell ⟨F, 2, none⟩ lv') (fun k => M k ∨ (w.heap.size ≤ k ∧ k < w1.heap.size)) F many most lv' (L.eraseIdx i) ∧ Only M w (w1.setCell ⟨F, 2, none⟩ lv') := by
  have h1 := h.below hb
  have hF := h.sub F h.inF
  have hmem : ∀ x ∈ L.eraseIdx i, x ∈ L := fun x hx => List.mem_of_mem_eraseIdx hx
  have hlt : ∀ k, lv'.ownBlock = some k → w.heap.size ≤ k ∧ k < w1.heap.size := fun k hk => how.lt k hk
  have hne : ∀ (k : Nat) (c : Array Value) (t : TypeId) (fr : Nat × Nat), t ≠ 118 → w1.heap[k]? = some (.cells c t fr) → (w1.setCell ⟨F, 2, none⟩ lv').heap[k]? = w1.heap[k]? := fun k c t fr ht hk => heap_setCell_other _ _ _ _ (type_apart hk h1.blk ht)
  refine ⟨⟨?_, .inl h.inF, ?_, fun k hk => .inr (hlt k hk), fun x hx => ⟨?_, fun k hk => .inl ((h.rows x (hmem x hx)).2 k hk)⟩, fun x hx y hy => ⟨?_, fun k hk => .inl ((h.bs x (hmem x hx) y hy).2 k hk)⟩, fun x hx => h.sim x (hmem x hx), h.apart.sublist (List.eraseIdx_sublist L i), ?_⟩, (Only.of_below hb).setCell (p := ⟨F, 2, none⟩) h.inF lv'⟩
  · rw [heap_setCell_same w1 F 2 _ 118 lv' h1.blk]; rfl
  · refine ownsRow_base (ownsRow_keep how (fun k hk => heap_setCell_other _ _ _ _ ?_)) (fun k _ => Nat.zero_le k)
    show k ≠ F
    have := hlt k hk; omega
  · refine ownsRow_keep (h1.rows x (hmem x hx)).1 (fun k hk => ?_)
    obtain ⟨cur, hc⟩ := ownsRow_type (h1.rows x (hmem x hx)).1 hk
    exact hne k cur 95 _ (by decide) hc
  · refine ownsRow_keep (h1.bs x (hmem x hx) y hy).1 (fun k hk => ?_)
    obtain ⟨cur, hc⟩ := ownsRow_type (h1.bs x (hmem x hx) y hy).1 hk
    exact hne k cur 5 _ (by decide) hc
  · intro k hk
    have := hb.size
    simp
    rcases hk with hk | hk
    · have := h.sub k hk; omega
    · exact hk.2
/-- a packet comes, with its first part -/
theorem rapp (h : TabRL w M F many most lv L) {p : PartD} {v : Value} (hv : Own w 0 v p.bs ∧ ∀ k, v.ownBlock = some k → M k) (hp : p.nm.ok) (hvs : ∀ x ∈ L, x.v.ownBlock ≠ none) {lv' : Value} {w1 wb : World} {c : Nat}
    (hwb : wb = (w.alloc (.cells (partA p v) 95)).alloc (.cells #[.slice (some ⟨w.heap.size, 0, none⟩) 1 1] 137))
    (how : w1.ownsRow 0 137 1 lv' (L.length + 1) (L.map (·.v) ++ [.slice (some ⟨w.heap.size, 0, none⟩) 1 1])) (hgr : wb.grownBy w1 lv.ownBlock) (hob : lv'.ownBlock = lv.ownBlock ∨ lv'.ownBlock = some wb.heap.size) :
    TabRL (w1.setCell ⟨F, 2, none⟩ lv') (fun k => M k ∨ (w.heap.size ≤ k ∧ k < w1.heap.size)) F many most lv' (L ++ [⟨p.nm, [p], .slice (some ⟨w.heap.size, 0, none⟩) 1 1, [(p, v)]⟩]) ∧ Only M w (w1.setCell ⟨F, 2, none⟩ lv') := by
  have hbb : Below w.heap.size w wb := by rw [hwb]; exact ((Below.refl _ _).alloc (Nat.le_refl _) _).alloc (by simp) _
  have hsb : wb.heap.size = w.heap.size + 2 := by rw [hwb]; simp
  have hpb : wb.heap[w.heap.size]? = some (.cells (partA p v) 95 (0, 0)) := by
    rw [hwb]
    have := heap_alloc_new w (.cells (partA p v) 95)
    rw [(below_alloc (w.alloc (.cells (partA p v) 95)) _).block w.heap.size (by simp)]
    exact this
  have hb := h.below hbb
  have hF := h.sub F h.inF
  have hl1 : w1.heap[F]? = w.heap[F]? := (hgr.block F (by omega) (fun e => h.noF e.symm rfl)).trans (hbb.block F hF)
  have hsame : ∀ (k : Nat) (c : Array Value) (t : TypeId) (fr : Nat × Nat), t ≠ 118 → t ≠ 137 → wb.heap[k]? = some (.cells c t fr) → (w1.setCell ⟨F, 2, none⟩ lv').heap[k]? = wb.heap[k]? := fun k c t fr h1 h2 hk => by
    rw [heap_setCell_other _ _ _ _ (type_apart hk hb.blk h1)]
    exact hgr.block k (lt_of_block hk) (fun e => by
      obtain ⟨cur, hc⟩ := ownsRow_type hb.own e.symm
      exact type_apart hk hc h2 rfl)
  have hlt : ∀ k, lv'.ownBlock = some k → k < w1.heap.size := fun k hk => (how.lt k hk).2
  have hs1 := hgr.size
  have hM : ∀ k, M k → k < w.heap.size := h.sub
  have hrow : (w1.setCell ⟨F, 2, none⟩ lv').ownsRow 0 95 39 (.slice (some ⟨w.heap.size, 0, none⟩) 1 1) 1 (ptRow [(p, v)]) := by
    have h0 : wb.ownsRow 0 95 39 (.slice (some ⟨w.heap.size, 0, none⟩) 1 1) 1 (ptRow [(p, v)]) := by
      have e : ptRow [(p, v)] = (partA p v).toList := by simp [ptRow, partA_list]
      rw [e]
      have := World.ownsRow_lit (e := 95) (size := 39) (base := 0) w (partA p v) 1 (Nat.zero_le _) (by unfold maxLen; decide) (by rw [partA_size hp])
      exact ownsRow_keep this (fun k hk => by
        cases hk
        rw [hpb]; exact (heap_alloc_new w _).symm)
    exact ownsRow_keep h0 (fun k hk => by
      cases hk
      exact hsame _ _ 95 _ (by decide) (by decide) hpb)
  have ho : Only M wb (w1.setCell ⟨F, 2, none⟩ lv') := (Only.of_grown hgr h.inl).setCell (p := ⟨F, 2, none⟩) h.inF lv'
  refine ⟨⟨?_, .inl h.inF, ?_, ?_, fun x hx => ?_, fun x hx y hy => ?_, fun x hx => ?_, ?_, ?_⟩, (Only.of_below hbb).trans ho (fun _ _ h => h)⟩
  · rw [heap_setCell_same w1 F 2 _ 118 lv' (hl1.trans h.blk)]; rfl
  · rw [List.length_append, List.map_append]
    refine ownsRow_keep how (fun k hk => heap_setCell_other _ _ _ _ ?_)
    rcases hob with e | e
    · rw [e] at hk; exact h.noF hk
    · rw [e] at hk
      have : wb.heap.size = k := by simpa using hk
      show k ≠ F
      omega
  · intro k hk
    have hk1 := hlt k hk
    rcases hob with e | e
    · rw [e] at hk; exact .inl (h.inl k hk)
    · rw [e] at hk
      have : wb.heap.size = k := by simpa using hk
      exact .inr ⟨by omega, hk1⟩
  · rcases List.mem_append.1 hx with hx | hx
    · refine ⟨ownsRow_keep (hb.rows x hx).1 (fun k hk => ?_), fun k hk => .inl ((h.rows x hx).2 k hk)⟩
      obtain ⟨cur, hc⟩ := ownsRow_type (hb.rows x hx).1 hk
      exact hsame k cur 95 _ (by decide) (by decide) hc
    · simp at hx; subst hx
      refine ⟨hrow, fun k hk => .inr ?_⟩
      have : w.heap.size = k := by
        have : (Value.slice (some ⟨w.heap.size, 0, none⟩) 1 1).ownBlock = some k := hk
        simpa [Value.ownBlock] using this
      omega
  · have hown : ∀ (y : PartD × Value), Own wb 0 y.2 y.1.bs → Own (w1.setCell ⟨F, 2, none⟩ lv') 0 y.2 y.1.bs := fun y hy => ownsRow_keep hy (fun k hk => by
      obtain ⟨cur, hc⟩ := ownsRow_type hy hk
      exact hsame k cur 5 _ (by decide) (by decide) hc)
    rcases List.mem_append.1 hx with hx | hx
    · exact ⟨hown y (hb.bs x hx y hy).1, fun k hk => .inl ((h.bs x hx y hy).2 k hk)⟩
    · simp at hx; subst hx
      simp at hy; subst hy
      exact ⟨hown (p, v) (Own.below hv.1 hbb), fun k hk => .inl (hv.2 k hk)⟩
  · rcases List.mem_append.1 hx with hx | hx
    · exact h.sim x hx
    · simp at hx; subst hx
      exact List.Perm.refl _
  · refine List.pairwise_append.2 ⟨h.apart, by simp, fun x hx y hy => ?_⟩
    simp at hy; subst hy
    intro e
    have := (h.rows x hx).2 w.heap.size (by rw [e]; rfl)
    have := hM _ this
    omega
  · intro k hk
    simp
    rcases hk with hk | hk
    · have := hM k hk; omega
    · exact hk.2
/-- a part comes into packet i, behind the others -/
theorem rins (h : TabRL w M F many most lv L) {i gl n c : Nat} {x : RkM} (hx : L[i]? = some x) (hlv : lv = .slice (some ⟨gl, 0, none⟩) n c) {p : PartD} {v v' : Value} {w1 : World} (hv : Own w 0 v p.bs ∧ ∀ k, v.ownBlock = some k → M k)
    (how : w1.ownsRow 0 95 39 v' (x.ps.length + 1) (ptRow x.ps ++ partL p v)) (hgr : (w.alloc (.cells (partA p v) 95)).grownBy w1 x.v.ownBlock) (hob : v'.ownBlock = x.v.ownBlock ∨ v'.ownBlock = some (w.heap.size + 1))
    (hne : x.ps ≠ []) {S' : List PartD} (hS : (p :: x.S).Perm S') :
    TabRL (w1.setCell ⟨gl, i, none⟩ v') (fun k => M k ∨ (w.heap.size ≤ k ∧ k < w1.heap.size)) F many most lv (L.set i ⟨x.nm, S', v', x.ps ++ [(p, v)]⟩) ∧ Only M w (w1.setCell ⟨gl, i, none⟩ v') := by
  have hxm := List.mem_of_getElem? hx
  have hil := (List.getElem?_eq_some_iff.1 hx).1
  have hgl : lv.ownBlock = some gl := by rw [hlv]; rfl
  obtain ⟨wb, hwb⟩ : ∃ wb, wb = w.alloc (.cells (partA p v) 95) := ⟨_, rfl⟩
  rw [← hwb] at hgr
  have hbb : Below w.heap.size w wb := by rw [hwb]; exact below_alloc _ _
  have hsb : wb.heap.size = w.heap.size + 1 := by rw [hwb]; simp
  have hb := h.below hbb
  have hs1 := hgr.size
  obtain ⟨curl, hcl⟩ := ownsRow_type hb.own hgl
  have hMx := (h.rows x hxm).2
  have hxv : ∀ {k : Nat} {t : TypeId} {c' : Array Value} {fr : Nat × Nat}, t ≠ 95 → wb.heap[k]? = some (.cells c' t fr) → w1.heap[k]? = wb.heap[k]? := fun {k t c' fr} ht hk => hgr.block k (lt_of_block hk) (fun e => by
    obtain ⟨cur, hc⟩ := ownsRow_type (hb.rows x hxm).1 e.symm
    exact type_apart hk hc ht rfl)
  have hsame : ∀ (k : Nat) (c' : Array Value) (t : TypeId) (fr : Nat × Nat), t ≠ 137 → t ≠ 95 → wb.heap[k]? = some (.cells c' t fr) → (w1.setCell ⟨gl, i, none⟩ v').heap[k]? = wb.heap[k]? := fun k c' t fr h1 h2 hk => by
    rw [heap_setCell_other _ _ _ _ (type_apart hk hcl h1)]
    exact hxv h2 hk
  have hlrow : w1.ownsRow 0 137 1 lv L.length (L.map (·.v)) := ownsRow_keep hb.own (fun k hk => by
    obtain ⟨cur, hc⟩ := ownsRow_type hb.own hk
    exact hxv (by decide) hc)
  obtain ⟨al, cl, hsh, _, _⟩ := ownsRow_shape h.own
  rw [hlv] at hsh
  cases hsh
  have hstored := (World.ownsRow.stored (hlv ▸ hlrow) i v').1
  have hlt : ∀ k, v'.ownBlock = some k → k < w1.heap.size := fun k hk => (how.lt k hk).2
  have hne2 : ∀ j y, L[j]? = some y → j ≠ i → y.v.ownBlock ≠ x.v.ownBlock := fun j y hy hji => by
    obtain ⟨hj, rfl⟩ := List.getElem?_eq_some_iff.1 hy
    obtain ⟨_, rfl⟩ := List.getElem?_eq_some_iff.1 hx
    rcases Nat.lt_or_ge j i with h1 | h1
    · exact List.pairwise_iff_getElem.1 h.apart j i hj hil h1
    · exact Ne.symm (List.pairwise_iff_getElem.1 h.apart i j hil hj (by omega))
  have hother : ∀ y ∈ L, y.v.ownBlock ≠ x.v.ownBlock → ∀ k, y.v.ownBlock = some k → (w1.setCell ⟨gl, i, none⟩ v').heap[k]? = wb.heap[k]? := fun y hy hyx k hk => by
    obtain ⟨cur, hc⟩ := ownsRow_type (hb.rows y hy).1 hk
    rw [heap_setCell_other _ _ _ _ (type_apart hc hcl (by decide))]
    exact hgr.block k (lt_of_block hc) (fun e => hyx (hk.trans e))
  have hnew : (w1.setCell ⟨gl, i, none⟩ v').ownsRow 0 95 39 v' (x.ps ++ [(p, v)]).length (ptRow (x.ps ++ [(p, v)])) ∧ ∀ k, v'.ownBlock = some k → M k ∨ (w.heap.size ≤ k ∧ k < w1.heap.size) := by
    have e : ptRow (x.ps ++ [(p, v)]) = ptRow x.ps ++ partL p v := by simp [ptRow]
    rw [e, List.length_append]
    refine ⟨ownsRow_keep how (fun k hk => heap_setCell_other _ _ _ _ ?_), fun k hk => ?_⟩
    · show k ≠ gl
      rcases hob with e | e
      · obtain ⟨cur, hc⟩ := ownsRow_type (hb.rows x hxm).1 (k := k) (e ▸ hk)
        exact type_apart hc hcl (by decide)
      · rw [e] at hk
        have : w.heap.size + 1 = k := by simpa using hk
        have := h.sub gl (h.inl gl hgl)
        omega
    · have hk1 := hlt k hk
      rcases hob with e | e
      · exact .inl (hMx k (e ▸ hk))
      · rw [e] at hk
        have : w.heap.size + 1 = k := by simpa using hk
        exact .inr ⟨by omega, hk1⟩
  have ho : Only M wb (w1.setCell ⟨gl, i, none⟩ v') := (Only.of_grown hgr (fun k hk => hMx k hk)).setCell (p := ⟨gl, i, none⟩) (h.inl gl hgl) v'
  refine ⟨⟨?_, .inl h.inF, ?_, fun k hk => .inl (h.inl k hk), fun y hy => ?_, fun y hy z hz => ?_, fun y hy => ?_, ?_, ?_⟩, (Only.of_below hbb).trans ho (fun _ _ h => h)⟩
  · rw [heap_setCell_other _ _ _ _ (Ne.symm (h.noF hgl)), hxv (by decide) hb.blk]; exact hb.blk
  · rw [List.length_set, List.map_set]
    rw [hlv]
    exact hstored
  · obtain ⟨j, hj⟩ := List.getElem?_of_mem hy
    rw [List.getElem?_set] at hj
    split at hj
    · first | (cases hj; exact hnew) | (split at hj <;> first | (cases hj; exact hnew) | cases hj) | (simp at hj; obtain ⟨_, rfl⟩ := hj; exact hnew)
    · rename_i hij
      have hym := List.mem_of_getElem? hj
      exact ⟨ownsRow_keep (hb.rows y hym).1 (hother y hym (hne2 j y hj (Ne.symm hij))), fun k hk => .inl ((h.rows y hym).2 k hk)⟩
  · have hown : ∀ z : PartD × Value, Own wb 0 z.2 z.1.bs → Own (w1.setCell ⟨gl, i, none⟩ v') 0 z.2 z.1.bs := fun z hz => ownsRow_keep hz (fun k hk => by
      obtain ⟨cur, hc⟩ := ownsRow_type hz hk
      exact hsame k cur 5 _ (by decide) (by decide) hc)
    rcases List.mem_or_eq_of_mem_set hy with hy' | rfl
    · exact ⟨hown z (hb.bs y hy' z hz).1, fun k hk => .inl ((h.bs y hy' z hz).2 k hk)⟩
    · rcases List.mem_append.1 hz with hz | hz
      · exact ⟨hown z (hb.bs x hxm z hz).1, fun k hk => .inl ((h.bs x hxm z hz).2 k hk)⟩
      · simp at hz; subst hz
        exact ⟨hown (p, v) (Own.below hv.1 hbb), fun k hk => .inl (hv.2 k hk)⟩
  · rcases List.mem_or_eq_of_mem_set hy with hy' | rfl
    · exact h.sim y hy'
    · simp only [List.map_append, List.map_cons, List.map_nil]
      exact (List.perm_append_comm.trans (List.Perm.cons p (h.sim x hxm))).trans hS
  · have hnb : ∀ j y, L[j]? = some y → j ≠ i → y.v.ownBlock ≠ v'.ownBlock := fun j y hj hji e => by
      rcases hob with e2 | e2
      · exact hne2 j y hj hji (e.trans e2)
      · rw [e2] at e
        have := h.sub _ ((h.rows y (List.mem_of_getElem? hj)).2 _ e)
        omega
    refine List.pairwise_iff_getElem.2 (fun a b ha hb' hab => ?_)
    have ha' : a < L.length := by simpa using ha
    have hb'' : b < L.length := by simpa using hb'
    rw [List.getElem_set, List.getElem_set]
    split
    · rename_i h1
      rw [if_neg (by omega)]
      exact Ne.symm (hnb b _ (List.getElem?_eq_getElem hb'') (by omega))
    · rename_i h1
      split
      · exact hnb a _ (List.getElem?_eq_getElem ha') (by omega)
      · exact List.pairwise_iff_getElem.1 h.apart a b ha' hb'' hab
  · intro k hk
    simp
    rcases hk with hk | hk
    · have := h.sub k hk; omega
    · exact hk.2
end
end Go.Proofs.Ytnckmaieghlpmaa
