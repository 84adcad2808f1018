/-
  append of numbers of 16 bits to a slice of the call's own.
-/
import Derived.Test.YtnckmaieghlpmaaLput
namespace Go.Proofs.Ytnckmaieghlpmaa
open Go.RowKit
set_option linter.unusedVariables false

theorem Try.info25 : (Try.prog.info? 25).map (fun i => (i.zero, i.size, i.bytes)) = some (some (.int .u16 0), 1, 2) := by kernel_rfl
def shortV (t : Nat) : Value := .int .u16 (t : Int)
def OwnH (w : World) (base : Nat) (v : Value) (ts : List Nat) : Prop := w.ownsRow base 25 1 v ts.length (ts.map shortV)

theorem OwnH.ns {w : World} {base : Nat} {v : Value} {ts : List Nat} (h : OwnH w base v ts) (ht : ∀ t ∈ ts, t < 65536) : Ns w v ts := by
  rcases h.2 with ⟨rfl, hn⟩ | ⟨g, cap, cur, rfl, hbg, hg, hnc, hcm, hcs, htake⟩
  · have : ts = [] := List.eq_nil_of_length_eq_zero hn
    subst this
    exact ⟨none, 0, rfl, Nat.le_refl _, Nat.zero_le _, .inl rfl, ht⟩
  · refine ⟨some ⟨g, 0, none⟩, cap, rfl, hnc, hcm, .inr ⟨g, 0, rfl, fun i x hx => ?_⟩, ht⟩
    rw [Nat.zero_add, cell_of_row w g i cur 25 (0, 0) hg]
    rw [List.getElem?_map] at hx
    obtain ⟨t, ht2, rfl⟩ := Option.map_eq_some_iff.1 hx
    have h1 : (cur.toList.take (ts.length * 1))[i]? = some (shortV t) := by rw [htake, List.getElem?_map, ht2]; rfl
    rw [List.getElem?_take] at h1
    split at h1
    · simpa [shortV] using h1
    · cases h1
theorem OwnH.shape {w : World} {base : Nat} {v : Value} {bs : List Nat} (h : OwnH w base v bs) :
    (v = .slice none 0 0 ∧ bs = []) ∨ ∃ g cap, v = .slice (some ⟨g, 0, none⟩) bs.length cap ∧ base ≤ g ∧ g < w.heap.size ∧ bs.length ≤ cap ∧ cap ≤ maxLen := by
  rcases h.2 with ⟨rfl, hn⟩ | ⟨g, cap, cur, rfl, hbg, hg, hnc, hcm, hcs, htake⟩
  · exact .inl ⟨rfl, List.eq_nil_of_length_eq_zero hn⟩
  · exact .inr ⟨g, cap, rfl, hbg, (Array.getElem?_eq_some_iff.1 hg).1, hnc, hcm⟩
theorem OwnH.alloc {w : World} {base : Nat} {v : Value} {bs : List Nat} (h : OwnH w base v bs) (o : Obj) : OwnH (w.alloc o) base v bs := World.ownsRow.alloc h o
theorem ownH_lit (w : World) (bs : List Nat) (cs : Array Value) (base : Nat) (hcs : cs.toList = bs.map shortV) (hb : base ≤ w.heap.size) (hl : bs.length ≤ maxLen) :
    OwnH (w.alloc (.cells cs 25)) base (.slice (some ⟨w.heap.size, 0, none⟩) bs.length bs.length) bs := by
  have h := World.ownsRow_lit (e := 25) (size := 1) (base := base) w cs bs.length hb hl (by rw [← Array.length_toList, hcs]; simp)
  unfold OwnH; rw [← hcs]; exact h
theorem ns_new (w : World) (ts : List Nat) (cs : Array Value) (t : TypeId) (fr : Nat × Nat) (hcs : cs.toList = ts.map shortV) (hl : ts.length ≤ maxLen) (ht : ∀ t ∈ ts, t < 65536) :
    Ns (w.alloc (.cells cs t fr)) (.slice (some ⟨w.heap.size, 0, none⟩) ts.length ts.length) ts := by
  refine ⟨_, _, rfl, Nat.le_refl _, hl, .inr ⟨_, _, rfl, fun i x hx => ?_⟩, ht⟩
  rw [List.getElem?_map] at hx
  obtain ⟨t, ht2, rfl⟩ := Option.map_eq_some_iff.1 hx
  rw [World.cell?_alloc_mark, Nat.zero_add, ← Array.getElem?_toList, hcs, List.getElem?_map, ht2]; rfl

theorem ownH_block {w : World} {base : Nat} {v : Value} {bs : List Nat} (h : OwnH w base v bs) : ∀ k, v.ownBlock = some k → base ≤ k := fun k hk => (World.ownsRow.lt h k hk).1

theorem OwnH.slice {w : World} {base : Nat} {v : Value} {bs : List Nat} (h : OwnH w base v bs) : ∃ a c, v = .slice a bs.length c ∧ bs.length ≤ c ∧ c ≤ 9223372036854775807 := by
  rcases h.shape with ⟨rfl, rfl⟩ | ⟨g, cap, rfl, _, _, h1, h2⟩
  · exact ⟨none, 0, rfl, Nat.le_refl _, by omega⟩
  · unfold maxLen at h2
    exact ⟨_, cap, rfl, h1, by omega⟩

/-- append of numbers, from wherever they are: its run -/
theorem run_appH {w : World} (ty : TypeId) (base : Nat) (v : Value) (bs : List Nat) (hown : OwnH w base v bs)
    (vx : Value) (news : List Nat) (hB : Ns w vx news) (hlen : bs.length + news.length ≤ 70368744177664) (hbase : base ≤ w.heap.size) :
    ∃ v' w', (Builtin.append_ #[75, 75] ty #[v, vx]).run Try.prog w = .ok v' w' ∧ OwnH w' base v' (bs ++ news) ∧ Below base w w' ∧ (v' = .slice none 0 0 → bs = [] ∧ news = []) := by
  obtain ⟨i0, hi, hz0, hz1, hz2⟩ := info_parts Try.info25
  have bel : ∀ {w'}, w.grownBy w' v.ownBlock → Below base w w' := fun hg => (Below.refl _ _).grown hg hbase (ownH_block hown)
  obtain ⟨ax, cx, rfl, l1, l2, hat, hlt⟩ := hB
  have nil_of : ∀ {w'}, OwnH w' base (.slice none 0 0) (bs ++ news) → bs = [] ∧ news = [] := fun {w'} ho => by
    rcases ho.shape with ⟨_, h⟩ | ⟨g, cap, h, _⟩
    · simpa using h
    · cases h
  cases ax with
  | none =>
    have hn : news = [] := by
      rcases hat with h | ⟨b, o, e, _⟩
      · simpa using h
      · cases e
    subst hn
    have hrun : (Builtin.append_ #[75, 75] ty #[v, .slice none 0 cx]).run Try.prog w = .ok v w := by
      rcases hown.2 with ⟨rfl, hn⟩ | ⟨g, cap, cur, rfl, hbg, hg, hnc, hcm, hcs, htake⟩
      · simp [Builtin.append_, run_underlying Try.underlying75, sizeOf, typeInfo, hi, Builtin.lenOf, Builtin.firstCells]
      · simp [Builtin.append_, run_underlying Try.underlying75, sizeOf, typeInfo, hi, Builtin.lenOf, Builtin.firstCells, hnc, storeCells]
    exact ⟨v, w, hrun, by simpa using hown, Below.refl _ _, fun e => by subst e; exact nil_of (by simpa using hown)⟩
  | some ad =>
    obtain ⟨v', w', hr, h1, h2, h3⟩ := run_append_own w base 75 ty 25 i0 (.int .u16 0) 1 2 Try.underlying75 hi hz0 hz1 hz2 rfl (by decide) v _ _ hown ad news.length cx (news.map shortV) (by simp)
      (fun j u hu => by
        rw [List.getElem?_map] at hu
        obtain ⟨y, hy, rfl⟩ := Option.map_eq_some_iff.1 hu
        rcases hat with h | ⟨b, o, e, hc⟩
        · have h' : news = [] := by simpa using h
          subst h'; simp at hy
        · cases e
          have : (⟨b, o, none⟩ : Addr).add j = ⟨b, o + j, none⟩ := by unfold Addr.add; split <;> simp_all
          rw [this]; exact hc j y (by rw [List.getElem?_map, hy]; rfl))
      (fun u hu => by obtain ⟨y, _, rfl⟩ := List.mem_map.1 hu; rfl) (by unfold maxLen; omega) (by omega) hbase
    have h1' : OwnH w' base v' (bs ++ news) := by unfold OwnH; rw [List.length_append, List.map_append]; exact h1
    exact ⟨v', w', hr, h1', bel h2, fun e => by subst e; exact nil_of h1'⟩

theorem wp_appH {w : World} {o : Oper} {a : Act} {K : Act → World → Prop} {Q : Exit → Act → World → Prop} (s x : Operand)
    (ho : o.op = .call { callee := .builtin .append, args := #[s, x], argTypes := #[75, 75] }) (base : Nat) (v : Value) (bs : List Nat) (hs : a.eval s = v) (hown : OwnH w base v bs)
    (vx : Value) (news : List Nat) (hx : a.eval x = vx) (hB : Ns w vx news) (hlen : bs.length + news.length ≤ 70368744177664) (hbase : base ≤ w.heap.size)
    (h : ∀ a' c' w', OwnH w' base (.slice a' (bs.length + news.length) c') (bs ++ news) → Below base w w' → bs.length + news.length ≤ c' ∧ c' ≤ 9223372036854775807 →
      K (a.put o.dst (.slice a' (bs.length + news.length) c')) w') : o.wp Try.prog a w K Q := by
  obtain ⟨v', w', hr, h2, h3, h4⟩ := run_appH o.type base v bs hown vx news hB hlen hbase
  unfold Oper.wp execOp
  simp only [ho, resolve, invoke, builtin, Sem.run_bind, Sem.run_pure, Result.andThen_ok, List.map_toArray, List.map_cons, List.map_nil, hs, hx, hr]
  obtain ⟨a', c', rfl, h5, h6⟩ := h2.slice
  rw [List.length_append] at h2 h5 ⊢
  exact h a' c' w' h2 h3 ⟨h5, h6⟩

theorem wpList_appH {w : World} {ops : Array Oper} {rest : List Oper} {o : Oper} {a : Act} {Q : Exit → Act → World → Prop} (hgd : o.guard = none) (s x : Operand)
    (ho : o.op = .call { callee := .builtin .append, args := #[s, x], argTypes := #[75, 75] }) (base : Nat) (v : Value) (bs : List Nat) (hs : a.eval s = v) (hown : OwnH w base v bs)
    (vx : Value) (news : List Nat) (hx : a.eval x = vx) (hB : Ns w vx news) (hlen : bs.length + news.length ≤ 70368744177664) (hbase : base ≤ w.heap.size)
    (h : ∀ a' c' w', OwnH w' base (.slice a' (bs.length + news.length) c') (bs ++ news) → Below base w w' → bs.length + news.length ≤ c' ∧ c' ≤ 9223372036854775807 →
      wpList Try.prog ops Q rest (a.put o.dst (.slice a' (bs.length + news.length) c')) w') :
    wpList Try.prog ops Q (o :: rest) a w :=
  wpList_plain hgd fun _ hK => wp_appH s x ho base v bs hs hown vx news hx hB hlen hbase fun a' c' w' h2 h3 h4 => hK _ _ (h a' c' w' h2 h3 h4)

end Go.Proofs.Ytnckmaieghlpmaa
