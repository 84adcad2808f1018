/-
  A part with one field of its name turned.
-/
import Derived.Test.YtnckmaieghlpmaaPmxd
namespace Go.Proofs.Ytnckmaieghlpmaa
open Go.RowKit
set_option linter.unusedVariables false

theorem xor_u32 (a b : Nat) (ha : a < 4294967296) (hb : b < 4294967296) : bits .xor .u32 (a : Int) (b : Int) = ((a ^^^ b : Nat) : Int) := by
  have hx : a ^^^ b < 2 ^ 32 := Nat.xor_lt_two_pow (by omega) (by omega)
  have h1 : (BitVec.ofInt 32 (a : Int)).toNat = a := by
    rw [BitVec.ofInt_natCast, BitVec.toNat_ofNat]; exact Nat.mod_eq_of_lt (by omega)
  have h2 : (BitVec.ofInt 32 (b : Int)).toNat = b := by
    rw [BitVec.ofInt_natCast, BitVec.toNat_ofNat]; exact Nat.mod_eq_of_lt (by omega)
  show IntKind.u32.wrap ((BitVec.ofInt 32 (a : Int) ^^^ BitVec.ofInt 32 (b : Int)).toNat : Int) = _
  rw [BitVec.toNat_xor, h1, h2, IntKind.wrap_u32]
  omega
theorem xor_u8 (a b : Nat) (ha : a < 256) (hb : b < 256) : bits .xor .u8 (a : Int) (b : Int) = ((a ^^^ b : Nat) : Int) := by
  have hx : a ^^^ b < 2 ^ 8 := Nat.xor_lt_two_pow (by omega) (by omega)
  have h1 : (BitVec.ofInt 8 (a : Int)).toNat = a := by
    rw [BitVec.ofInt_natCast, BitVec.toNat_ofNat]; exact Nat.mod_eq_of_lt (by omega)
  have h2 : (BitVec.ofInt 8 (b : Int)).toNat = b := by
    rw [BitVec.ofInt_natCast, BitVec.toNat_ofNat]; exact Nat.mod_eq_of_lt (by omega)
  show IntKind.u8.wrap ((BitVec.ofInt 8 (a : Int) ^^^ BitVec.ofInt 8 (b : Int)).toNat : Int) = _
  rw [BitVec.toNat_xor, h1, h2, IntKind.wrap_u8]
  omega
theorem xor_ne (a b : Nat) (hb : b ≠ 0) : a ^^^ b ≠ a := fun e => hb (by
  have h : a ^^^ (a ^^^ b) = a ^^^ a := by rw [e]
  rwa [← Nat.xor_assoc, Nat.xor_self, Nat.zero_xor] at h)
theorem xor_lt (a b n : Nat) (ha : a < 2 ^ n) (hb : b < 2 ^ n) : a ^^^ b < 2 ^ n := Nat.xor_lt_two_pow ha hb

def withN (y : PartD) (n : NameD) : PartD := ⟨n, y.pos, y.more, y.bs⟩
/-- cell k of the part holds X; with X' there it is another packet's part -/
structure Turns (y : PartD) (u : Value) (k : Nat) (X X' : Value) (n2 : NameD) : Prop where
  at_ : (partL y u)[k]? = some X
  set_ : (partL y u).set k X' = partL (withN y n2) u
  ne : n2 ≠ y.nm
  fit : n2.fit
theorem turns0 (y : PartD) (u : Value) (hy : y.nm.fit) (i : Nat) (hi : i < 16) : ∃ x : Nat, bits .xor .u8 (x : Int) 1 = ((x ^^^ 1 : Nat) : Int) ∧ x < 256 ∧ ∃ n2, Turns y u (i + 1) (.int .u8 (x : Int)) (.int .u8 ((x ^^^ 1 : Nat) : Int)) n2 := by
  obtain ⟨⟨s1, A1, s2, A2, p, id⟩, po, mo, bs⟩ := y
  obtain ⟨⟨h1, h2⟩, h3, h4⟩ := hy
  simp only at h1 h2 h3 h4
  obtain ⟨x, hx⟩ : ∃ x, A1[i]? = some x := ⟨A1[i]'(by omega), List.getElem?_eq_getElem _⟩
  have hlt : x.toNat < 256 := x.toNat_lt
  have hxx : x.toNat ^^^ 1 < 256 := xor_lt x.toNat 1 8 (by omega) (by omega)
  have e2 : (UInt8.ofNat (x.toNat ^^^ 1)).toNat = x.toNat ^^^ 1 := Nat.mod_eq_of_lt hxx
  refine ⟨x.toNat, xor_u8 x.toNat 1 hlt (by decide), hlt, ⟨s1, A1.set i (UInt8.ofNat (x.toNat ^^^ 1)), s2, A2, p, id⟩, ?_, ?_, ?_, ?_⟩
  · simp only [partL, nameL, adr_list, List.append_assoc, List.cons_append, List.getElem?_cons_succ]
    rw [List.getElem?_append_left (by rw [List.length_map]; omega), List.getElem?_map, hx]
    rfl
  · simp only [partL, withN, nameL, adr_list, List.append_assoc, List.cons_append, List.set_cons_succ]
    rw [List.set_append_left _ _ (by rw [List.length_map]; omega), List.map_set]
    simp only [byteV, e2]
  · intro e
    have := congrArg NameD.A1 e
    simp only at this
    have h := congrArg (fun l => l[i]?) this
    simp only [List.getElem?_set_self (show i < A1.length by omega), hx] at h
    have h := congrArg UInt8.toNat (Option.some.inj h)
    rw [e2] at h
    exact xor_ne _ _ (by omega) h
  · exact ⟨⟨by simp only [List.length_set]; exact h1, h2⟩, h3, h4⟩
set_option maxRecDepth 100000 in
theorem turns1 (y : PartD) (u : Value) (hy : y.nm.fit) : ∃ b : Bool, ∃ n2, Turns y u 17 (.bool b) (.bool !b) n2 := by
  obtain ⟨⟨s1, A1, s2, A2, p, id⟩, po, mo, bs⟩ := y
  obtain ⟨⟨h1, h2⟩, h3, h4⟩ := hy
  simp only at h1 h2 h3 h4
  refine ⟨s2, ⟨s1, A1, !s2, A2, p, id⟩, ?_, ?_, ?_, ⟨⟨h1, h2⟩, h3, h4⟩⟩
  · obtain ⟨a0, a1, a2, a3, a4, a5, a6, a7, a8, a9, a10, a11, a12, a13, a14, a15, rfl⟩ := list16 A1 h1
    rfl
  · obtain ⟨a0, a1, a2, a3, a4, a5, a6, a7, a8, a9, a10, a11, a12, a13, a14, a15, rfl⟩ := list16 A1 h1
    rfl
  · intro e
    have := congrArg NameD.s2 e
    cases s2 <;> simp at this
set_option maxRecDepth 100000 in
theorem turns2 (y : PartD) (u : Value) (hy : y.nm.fit) : ∃ x : Nat, bits .xor .u8 (x : Int) 4 = ((x ^^^ 4 : Nat) : Int) ∧ x < 256 ∧ ∃ n2, Turns y u 34 (.int .u8 (x : Int)) (.int .u8 ((x ^^^ 4 : Nat) : Int)) n2 := by
  obtain ⟨⟨s1, A1, s2, A2, p, id⟩, po, mo, bs⟩ := y
  obtain ⟨⟨h1, h2⟩, h3, h4⟩ := hy
  simp only at h1 h2 h3 h4
  refine ⟨p, xor_u8 p 4 h3 (by decide), h3, ⟨s1, A1, s2, A2, p ^^^ 4, id⟩, ?_, ?_, ?_, ⟨⟨h1, h2⟩, xor_lt p 4 8 (by omega) (by omega), h4⟩⟩
  · obtain ⟨a0, a1, a2, a3, a4, a5, a6, a7, a8, a9, a10, a11, a12, a13, a14, a15, rfl⟩ := list16 A1 h1
    obtain ⟨b0, b1, b2, b3, b4, b5, b6, b7, b8, b9, b10, b11, b12, b13, b14, b15, rfl⟩ := list16 A2 h2
    rfl
  · obtain ⟨a0, a1, a2, a3, a4, a5, a6, a7, a8, a9, a10, a11, a12, a13, a14, a15, rfl⟩ := list16 A1 h1
    obtain ⟨b0, b1, b2, b3, b4, b5, b6, b7, b8, b9, b10, b11, b12, b13, b14, b15, rfl⟩ := list16 A2 h2
    rfl
  · intro e
    have := congrArg NameD.proto e
    exact xor_ne p 4 (by omega) this
set_option maxRecDepth 100000 in
theorem turns3 (y : PartD) (u : Value) (hy : y.nm.fit) : ∃ x : Nat, bits .xor .u32 (x : Int) 65536 = ((x ^^^ 65536 : Nat) : Int) ∧ x < 4294967296 ∧ ∃ n2, Turns y u 35 (.int .u32 (x : Int)) (.int .u32 ((x ^^^ 65536 : Nat) : Int)) n2 := by
  obtain ⟨⟨s1, A1, s2, A2, p, id⟩, po, mo, bs⟩ := y
  obtain ⟨⟨h1, h2⟩, h3, h4⟩ := hy
  simp only at h1 h2 h3 h4
  refine ⟨id, xor_u32 id 65536 h4 (by decide), h4, ⟨s1, A1, s2, A2, p, id ^^^ 65536⟩, ?_, ?_, ?_, ⟨⟨h1, h2⟩, h3, xor_lt id 65536 32 (by omega) (by omega)⟩⟩
  · obtain ⟨a0, a1, a2, a3, a4, a5, a6, a7, a8, a9, a10, a11, a12, a13, a14, a15, rfl⟩ := list16 A1 h1
    obtain ⟨b0, b1, b2, b3, b4, b5, b6, b7, b8, b9, b10, b11, b12, b13, b14, b15, rfl⟩ := list16 A2 h2
    rfl
  · obtain ⟨a0, a1, a2, a3, a4, a5, a6, a7, a8, a9, a10, a11, a12, a13, a14, a15, rfl⟩ := list16 A1 h1
    obtain ⟨b0, b1, b2, b3, b4, b5, b6, b7, b8, b9, b10, b11, b12, b13, b14, b15, rfl⟩ := list16 A2 h2
    rfl
  · intro e
    have := congrArg NameD.id e
    exact xor_ne id 65536 (by omega) this
theorem turn_box {wo wr wx : World} {y : PartD} {u X X' : Value} {g k : Nat} {n2 : NameD} (h : BoxU wo wr (y, u) g wx) (ht : Turns y u k X X' n2) : wx.cell? ⟨g, k, none⟩ = some X ∧ wx.frozen? ⟨g, k, none⟩ = false ∧ BoxU wo wr (withN y n2, u) g (wx.setCell ⟨g, k, none⟩ X') := by
  obtain ⟨h1, h2, h3, h4, h5⟩ := h
  refine ⟨by have := h1 k X ht.at_; rwa [Nat.zero_add] at this, h2 k, ?_, ?_, h3, by simpa using h4, h5.setCell (p := ⟨g, k, none⟩) h3 _⟩
  · have := rangeAt_set h1 k X'
    rw [ht.set_] at this
    exact this
  · intro j; rw [World.frozen?_setCell]; exact h2 j
/-- the copy with its one field turned -/
def TurnR (w1 : World) (y : PartD) (u : Value) (g : Nat) (wx : World) : Prop := ∃ n2, n2 ≠ y.nm ∧ n2.fit ∧ BoxU w1 w1 (withN y n2, u) g wx
theorem turnR {wo wx : World} {y : PartD} {u X X' : Value} {g k : Nat} {n2 : NameD} (h : BoxU wo wo (y, u) g wx) (ht : Turns y u k X X' n2) : TurnR wo y u g (wx.setCell ⟨g, k, none⟩ X') := ⟨n2, ht.ne, ht.fit, (turn_box h ht).2.2⟩
end Go.Proofs.Ytnckmaieghlpmaa
