/-
  A slice of bytes that the call itself made: append to it.
-/
import Derived.Test.YtnckmaieghlpmaaKit
import Derived.Laws.AppendOwnNone
namespace Go.Proofs.Ytnckmaieghlpmaa
open Go.RowKit
set_option linter.unusedVariables false

theorem Try.info5 : (Try.prog.info? 5).map (fun i => (i.zero, i.size, i.bytes)) = some (some (.int .u8 0), 1, 1) := by kernel_rfl

def byteV (x : UInt8) : Value := .int .u8 (x.toNat : Int)

/-- the slice is the call's own (its block has a number from base on), and holds these bytes -/
def Own (w : World) (base : Nat) (v : Value) (bs : List UInt8) : Prop := w.ownsRow base 5 1 v bs.length (bs.map byteV)

theorem own_nil (w : World) (base : Nat) : Own w base (.slice none 0 0) [] := World.ownsRow_nil _ _ _ _

theorem Own.bs {w : World} {base : Nat} {v : Value} {bs : List UInt8} (h : Own w base v bs) : Bs w v bs := by
  rcases h.2 with ⟨rfl, hn⟩ | ⟨g, cap, cur, rfl, hbg, hg, hnc, hcm, hcs, htake⟩
  · have : bs = [] := List.eq_nil_of_length_eq_zero hn
    subst this
    exact ⟨none, 0, rfl, Nat.le_refl _, Nat.zero_le _, .inl rfl⟩
  · refine ⟨some ⟨g, 0, none⟩, cap, rfl, hnc, hcm, .inr ⟨g, 0, rfl, fun i x hx => ?_⟩⟩
    rw [Nat.zero_add, cell_of_row w g i cur 5 (0, 0) hg]
    have h1 : (cur.toList.take (bs.length * 1))[i]? = some (byteV x) := by rw [htake, List.getElem?_map, hx]; rfl
    rw [List.getElem?_take] at h1
    split at h1
    · simpa [byteV] using h1
    · cases h1
theorem Own.shape {w : World} {base : Nat} {v : Value} {bs : List UInt8} (h : Own w base v bs) :
    (v = .slice none 0 0 ∧ bs = []) ∨ ∃ g cap, v = .slice (some ⟨g, 0, none⟩) bs.length cap ∧ base ≤ g ∧ g < w.heap.size ∧ bs.length ≤ cap ∧ cap ≤ maxLen := by
  rcases h.2 with ⟨rfl, hn⟩ | ⟨g, cap, cur, rfl, hbg, hg, hnc, hcm, hcs, htake⟩
  · exact .inl ⟨rfl, List.eq_nil_of_length_eq_zero hn⟩
  · exact .inr ⟨g, cap, rfl, hbg, (Array.getElem?_eq_some_iff.1 hg).1, hnc, hcm⟩
theorem Own.alloc {w : World} {base : Nat} {v : Value} {bs : List UInt8} (h : Own w base v bs) (o : Obj) : Own (w.alloc o) base v bs := World.ownsRow.alloc h o
theorem Own.drew {w : World} {base : Nat} {v : Value} {bs : List UInt8} (h : Own w base v bs) : Own w.drew base v bs := h
theorem Own.mono {w : World} {base base' : Nat} {v : Value} {bs : List UInt8} (h : Own w base v bs) (hb : base' ≤ base) : Own w base' v bs := by
  refine ⟨h.1, ?_⟩
  rcases h.2 with h2 | ⟨g, cap, cur, e, hbg, r⟩
  · exact .inl h2
  · exact .inr ⟨g, cap, cur, e, Nat.le_trans hb hbg, r⟩
theorem Own.keep {w w' : World} {base B : Nat} {v : Value} {bs : List UInt8} (h : Own w base v bs) (hb : Below B w w') (hB : w.heap.size ≤ B) : Own w' base v bs := by
  refine ⟨h.1, ?_⟩
  rcases h.2 with h2 | ⟨g, cap, cur, e, hbg, hg, r⟩
  · exact .inl h2
  · refine .inr ⟨g, cap, cur, e, hbg, ?_, r⟩
    have := (Array.getElem?_eq_some_iff.1 hg).1
    rw [hb.block g (by omega)]; exact hg
theorem Own.below {w w' : World} {base : Nat} {v : Value} {bs : List UInt8} (h : Own w base v bs) (hb : Below w.heap.size w w') : Own w' base v bs := h.keep hb (Nat.le_refl _)
theorem own_lit (w : World) (bs : List UInt8) (cs : Array Value) (base : Nat) (hcs : cs.toList = bs.map byteV) (hb : base ≤ w.heap.size) (hl : bs.length ≤ maxLen) :
    Own (w.alloc (.cells cs 5)) base (.slice (some ⟨w.heap.size, 0, none⟩) bs.length bs.length) bs := by
  have h := World.ownsRow_lit (e := 5) (size := 1) (base := base) w cs bs.length hb hl (by rw [← Array.length_toList, hcs]; simp)
  unfold Own; rw [← hcs]; exact h

theorem own_block {w : World} {base : Nat} {v : Value} {bs : List UInt8} (h : Own w base v bs) : ∀ k, v.ownBlock = some k → base ≤ k := fun k hk => (World.ownsRow.lt h k hk).1

theorem Own.slice {w : World} {base : Nat} {v : Value} {bs : List UInt8} (h : Own w base v bs) : ∃ a c, v = .slice a bs.length c ∧ bs.length ≤ c ∧ c ≤ 9223372036854775807 := by
  obtain ⟨a, c, e, h1, h2, _⟩ := h.bs
  unfold maxLen at h2
  exact ⟨a, c, e, h1, by omega⟩

/-- append of bytes, from wherever they are: its run -/
theorem run_app {w : World} (ty : TypeId) (base : Nat) (v : Value) (bs : List UInt8) (hown : Own w base v bs)
    (vx : Value) (news : List UInt8) (hB : Bs w vx news) (hlen : bs.length + news.length ≤ 70368744177664) (hbase : base ≤ w.heap.size) :
    ∃ v' w', (Builtin.append_ #[24, 24] ty #[v, vx]).run Try.prog w = .ok v' w' ∧ Own w' base v' (bs ++ news) ∧ Below base w w' ∧ (v' = .slice none 0 0 → bs = [] ∧ news = []) := by
  obtain ⟨i0, hi, hz0, hz1, hz2⟩ := info_parts Try.info5
  have bel : ∀ {w'}, w.grownBy w' v.ownBlock → Below base w w' := fun hg => (Below.refl _ _).grown hg hbase (own_block hown)
  obtain ⟨ax, cx, rfl, l1, l2, hat⟩ := hB
  have nil_of : ∀ {w'}, Own w' base (.slice none 0 0) (bs ++ news) → bs = [] ∧ news = [] := fun {w'} ho => by
    rcases ho.shape with ⟨_, h⟩ | ⟨g, cap, h, _⟩
    · simpa using h
    · cases h
  cases ax with
  | none =>
    have hn : news = [] := by
      rcases hat with h | ⟨b, o, e, _⟩
      · exact h
      · cases e
    subst hn
    have hrun : (Builtin.append_ #[24, 24] ty #[v, .slice none 0 cx]).run Try.prog w = .ok v w := by
      rcases hown.2 with ⟨rfl, hn⟩ | ⟨g, cap, cur, rfl, hbg, hg, hnc, hcm, hcs, htake⟩
      · simp [Builtin.append_, run_underlying Try.underlying24, sizeOf, typeInfo, hi, Builtin.lenOf, Builtin.firstCells]
      · simp [Builtin.append_, run_underlying Try.underlying24, sizeOf, typeInfo, hi, Builtin.lenOf, Builtin.firstCells, hnc, storeCells]
    exact ⟨v, w, hrun, by simpa using hown, Below.refl _ _, fun e => by subst e; exact nil_of (by simpa using hown)⟩
  | some ad =>
    obtain ⟨v', w', hr, h1, h2, h3⟩ := run_append_own w base 24 ty 5 i0 (.int .u8 0) 1 1 Try.underlying24 hi hz0 hz1 hz2 rfl (by decide) v _ _ hown ad news.length cx (news.map byteV) (by simp)
      (fun j u hu => by
        rw [List.getElem?_map] at hu
        obtain ⟨y, hy, rfl⟩ := Option.map_eq_some_iff.1 hu
        rcases hat with h | ⟨b, o, e, hc⟩
        · subst h; simp at hy
        · cases e
          have : (⟨b, o, none⟩ : Addr).add j = ⟨b, o + j, none⟩ := by unfold Addr.add; split <;> simp_all
          rw [this]; exact hc j y hy)
      (fun u hu => by obtain ⟨y, _, rfl⟩ := List.mem_map.1 hu; rfl) (by unfold maxLen; omega) (by omega) hbase
    have h1' : Own w' base v' (bs ++ news) := by unfold Own; rw [List.length_append, List.map_append]; exact h1
    exact ⟨v', w', hr, h1', bel h2, fun e => by subst e; exact nil_of h1'⟩

theorem wp_app {w : World} {o : Oper} {a : Act} {K : Act → World → Prop} {Q : Exit → Act → World → Prop} (s x : Operand)
    (ho : o.op = .call { callee := .builtin .append, args := #[s, x], argTypes := #[24, 24] }) (base : Nat) (v : Value) (bs : List UInt8) (hs : a.eval s = v) (hown : Own w base v bs)
    (vx : Value) (news : List UInt8) (hx : a.eval x = vx) (hB : Bs w vx news) (hlen : bs.length + news.length ≤ 70368744177664) (hbase : base ≤ w.heap.size)
    (h : ∀ a' c' w', Own w' base (.slice a' (bs.length + news.length) c') (bs ++ news) → Below base w w' → bs.length + news.length ≤ c' ∧ c' ≤ 9223372036854775807 →
      K (a.put o.dst (.slice a' (bs.length + news.length) c')) w') : o.wp Try.prog a w K Q := by
  obtain ⟨v', w', hr, h2, h3, h4⟩ := run_app o.type base v bs hown vx news hB hlen hbase
  unfold Oper.wp execOp
  simp only [ho, resolve, invoke, builtin, Sem.run_bind, Sem.run_pure, Result.andThen_ok, List.map_toArray, List.map_cons, List.map_nil, hs, hx, hr]
  obtain ⟨a', c', rfl, h5, h6⟩ := h2.slice
  rw [List.length_append] at h2 h5 ⊢
  exact h a' c' w' h2 h3 ⟨h5, h6⟩

theorem wpList_app {w : World} {ops : Array Oper} {rest : List Oper} {o : Oper} {a : Act} {Q : Exit → Act → World → Prop} (hgd : o.guard = none) (s x : Operand)
    (ho : o.op = .call { callee := .builtin .append, args := #[s, x], argTypes := #[24, 24] }) (base : Nat) (v : Value) (bs : List UInt8) (hs : a.eval s = v) (hown : Own w base v bs)
    (vx : Value) (news : List UInt8) (hx : a.eval x = vx) (hB : Bs w vx news) (hlen : bs.length + news.length ≤ 70368744177664) (hbase : base ≤ w.heap.size)
    (h : ∀ a' c' w', Own w' base (.slice a' (bs.length + news.length) c') (bs ++ news) → Below base w w' → bs.length + news.length ≤ c' ∧ c' ≤ 9223372036854775807 →
      wpList Try.prog ops Q rest (a.put o.dst (.slice a' (bs.length + news.length) c')) w') :
    wpList Try.prog ops Q (o :: rest) a w :=
  wpList_plain hgd fun _ hK => wp_app s x ho base v bs hs hown vx news hx hB hlen hbase fun a' c' w' h2 h3 h4 => hK _ _ (h a' c' w' h2 h3 h4)

/-- .. as one step of a region that draws its order -/
theorem step_app {w : World} {ops : Array Oper} {o : Oper} {a : Act} {K : Act → World → Prop} {Q : Exit → Act → World → Prop} {E : Prop} (hgd : o.guard = none) (s x : Operand)
    (ho : o.op = .call { callee := .builtin .append, args := #[s, x], argTypes := #[24, 24] }) (base : Nat) (v : Value) (bs : List UInt8) (hs : a.eval s = v) (hown : Own w base v bs)
    (vx : Value) (news : List UInt8) (hx : a.eval x = vx) (hB : Bs w vx news) (hlen : bs.length + news.length ≤ 70368744177664) (hbase : base ≤ w.heap.size)
    (h : ∀ a' c' w', Own w' base (.slice a' (bs.length + news.length) c') (bs ++ news) → Below base w w' → bs.length + news.length ≤ c' ∧ c' ≤ 9223372036854775807 →
      K (a.put o.dst (.slice a' (bs.length + news.length) c')) w') :
    if Region.wanted o (yielded ops a.tmps) = true then Oper.wp Try.prog o a w K Q else E := by
  have hw : Region.wanted o (yielded ops a.tmps) = true := by simp [Region.wanted, hgd]
  rw [if_pos hw]
  exact wp_app s x ho base v bs hs hown vx news hx hB hlen hbase h

/-- a byte of the call's own is written -/
theorem own_store {w : World} {base g cap : Nat} {bs : List UInt8} (h : Own w base (.slice (some ⟨g, 0, none⟩) bs.length cap) bs) (j : Nat) (x : UInt8) :
    Own (w.setCell ⟨g, j, none⟩ (byteV x)) base (.slice (some ⟨g, 0, none⟩) bs.length cap) (bs.set j x) := by
  have := (World.ownsRow.stored h j (byteV x)).1
  unfold Own
  rw [List.length_set, List.map_set]
  exact this
theorem own_cell {w : World} {base g cap : Nat} {bs : List UInt8} (h : Own w base (.slice (some ⟨g, 0, none⟩) bs.length cap) bs) {j : Nat} {x : UInt8} (hj : bs[j]? = some x) :
    w.cell? ⟨g, j, none⟩ = some (.int .u8 (x.toNat : Int)) := by
  have := World.ownsRow.cellAt h j (by have := (List.getElem?_eq_some_iff.1 hj).1; omega)
  rw [this, List.getElem?_map, hj]; rfl
theorem own_free {w : World} {base g cap : Nat} {bs : List UInt8} (h : Own w base (.slice (some ⟨g, 0, none⟩) bs.length cap) bs) (j : Nat) : w.frozen? ⟨g, j, none⟩ = false :=
  World.ownsRow.frozenAt h j
end Go.Proofs.Ytnckmaieghlpmaa
