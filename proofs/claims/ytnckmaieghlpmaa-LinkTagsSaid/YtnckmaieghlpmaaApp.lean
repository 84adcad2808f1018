/-
  append to a slice of the call's own, the new list under a name of its own; what calls of Put leave, likewise.
-/
import Derived.Test.YtnckmaieghlpmaaRput
namespace Go.Proofs.Ytnckmaieghlpmaa
open Go.RowKit
set_option linter.unusedVariables false

theorem wpList_app' {w : World} {ops : Array Oper} {rest : List Oper} {o : Oper} {a : Act} {Q : Exit → Act → World → Prop} (hgd : o.guard = none) (s x : Operand)
    (ho : o.op = .call { callee := .builtin .append, args := #[s, x], argTypes := #[24, 24] }) (base : Nat) (v : Value) (bs : List UInt8) (hs : a.eval s = v) (hown : Own w base v bs)
    (vx : Value) (news : List UInt8) (hx : a.eval x = vx) (hB : Bs w vx news) (hlen : bs.length + news.length ≤ 70368744177664) (hbase : base ≤ w.heap.size)
    (h : ∀ Y a' c' w', Hid (Y = bs ++ news) → Hid (Own w' base (.slice a' Y.length c') Y) → Hid (Below base w w') → Hid (Y.length = bs.length + news.length) → Y.length ≤ c' ∧ c' ≤ 9223372036854775807 →
      wpList Try.prog ops Q rest (a.put o.dst (.slice a' Y.length c')) w') :
    wpList Try.prog ops Q (o :: rest) a w :=
  wpList_app hgd s x ho base v bs hs hown vx news hx hB hlen hbase fun a' c' w' h1 h2 h3 => by
    have e : bs.length + news.length = (bs ++ news).length := by simp
    rw [e] at h1 h3 ⊢
    exact h _ a' c' w' rfl h1 h2 e.symm h3

theorem step_app' {w : World} {ops : Array Oper} {o : Oper} {a : Act} {K : Act → World → Prop} {Q : Exit → Act → World → Prop} {E : Prop} (hgd : o.guard = none) (s x : Operand)
    (ho : o.op = .call { callee := .builtin .append, args := #[s, x], argTypes := #[24, 24] }) (base : Nat) (v : Value) (bs : List UInt8) (hs : a.eval s = v) (hown : Own w base v bs)
    (vx : Value) (news : List UInt8) (hx : a.eval x = vx) (hB : Bs w vx news) (hlen : bs.length + news.length ≤ 70368744177664) (hbase : base ≤ w.heap.size)
    (h : ∀ Y a' c' w', Hid (Y = bs ++ news) → Hid (Own w' base (.slice a' Y.length c') Y) → Hid (Below base w w') → Hid (Y.length = bs.length + news.length) → Y.length ≤ c' ∧ c' ≤ 9223372036854775807 →
      K (a.put o.dst (.slice a' Y.length c')) w') :
    if Region.wanted o (yielded ops a.tmps) = true then Oper.wp Try.prog o a w K Q else E :=
  step_app hgd s x ho base v bs hs hown vx news hx hB hlen hbase fun a' c' w' h1 h2 h3 => by
    have e : bs.length + news.length = (bs ++ news).length := by simp
    rw [e] at h1 h3 ⊢
    exact h _ a' c' w' rfl h1 h2 e.symm h3

/-- .. where the operation is guarded, and runs -/
theorem step_app_g {w : World} {ops : Array Oper} {o : Oper} {a : Act} {K : Act → World → Prop} {Q : Exit → Act → World → Prop} {E : Prop} (hw : Region.wanted o (yielded ops a.tmps) = true) (s x : Operand)
    (ho : o.op = .call { callee := .builtin .append, args := #[s, x], argTypes := #[24, 24] }) (base : Nat) (v : Value) (bs : List UInt8) (hs : a.eval s = v) (hown : Own w base v bs)
    (vx : Value) (news : List UInt8) (hx : a.eval x = vx) (hB : Bs w vx news) (hlen : bs.length + news.length ≤ 70368744177664) (hbase : base ≤ w.heap.size)
    (h : ∀ Y a' c' w', Hid (Y = bs ++ news) → Hid (Own w' base (.slice a' Y.length c') Y) → Hid (Below base w w') → Hid (Y.length = bs.length + news.length) → Y.length ≤ c' ∧ c' ≤ 9223372036854775807 →
      K (a.put o.dst (.slice a' Y.length c')) w') :
    if Region.wanted o (yielded ops a.tmps) = true then Oper.wp Try.prog o a w K Q else E := by
  rw [if_pos hw]
  exact wp_app s x ho base v bs hs hown vx news hx hB hlen hbase fun a' c' w' h1 h2 h3 => by
    have e : bs.length + news.length = (bs ++ news).length := by simp
    rw [e] at h1 h3 ⊢
    exact h _ a' c' w' rfl h1 h2 e.symm h3

/-- what a call returns that makes bytes of its own, the list under a name -/
def OwnRet' (w : World) (P : List UInt8 → Prop) (e : Ending) (w' : World) : Prop :=
  ∃ Y a c, e = .returned (.slice a Y.length c) ∧ P Y ∧ Own w' w.heap.size (.slice a Y.length c) Y ∧ Below w.heap.size w w' ∧ Y.length ≤ c ∧ c ≤ 9223372036854775807
def RowRet' (w : World) (lit : Bool) (P : List UInt8 → Prop) (e : Ending) (w' : World) : Prop :=
  ∃ Y a c, e = .returned (.agg #[.slice a Y.length c, .bool lit]) ∧ P Y ∧ Own w' w.heap.size (.slice a Y.length c) Y ∧ Below w.heap.size w w' ∧ Y.length ≤ c ∧ c ≤ 9223372036854775807

theorem rput' (w : World) (lit : Bool) (n m : Nat) (hn : n < 18446744073709551616) (hm : m ≤ 8) :
    Calls Try.prog 34 #[.int .u64 n, .bool lit, .int .i64 m] w (OwnRet' w (· = numB lit n m)) :=
  (rput_any w lit n m hn hm).mono fun e w' h => by
    obtain ⟨v, he, ho, hb⟩ := h
    obtain ⟨a, c, rfl, h1, h2⟩ := ho.slice
    exact ⟨_, a, c, he, rfl, ho, hb, h1, h2⟩
theorem put' (w : World) (v : Value) (bs : List UInt8) (lit : Bool) (n m : Nat) (hb : Bs w v bs) (hbl : bs.length ≤ 4294967296) (hn : n < 18446744073709551616) (hm : m ≤ 8) :
    Calls Try.prog 33 #[.agg #[v, .bool lit], .int .u64 n, .int .i64 m] w (RowRet' w lit (· = bs ++ numB lit n m)) :=
  (put_yes w v bs lit n m hb hbl hn hm).mono fun e w' h => by
    obtain ⟨v, rfl, ho, hb⟩ := h
    obtain ⟨a, c, rfl, h1, h2⟩ := ho.slice
    exact ⟨_, a, c, rfl, rfl, ho, hb, h1, h2⟩
end Go.Proofs.Ytnckmaieghlpmaa
