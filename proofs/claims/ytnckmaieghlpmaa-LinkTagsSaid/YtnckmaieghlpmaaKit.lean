/-
  What it is for a slice to read as bytes, or as a list of rows of bytes, in a world; small laws on these.
-/
import Derived.Test.YtnckmaieghlpmaaRows
import Derived.WalkKit
import Derived.WalkSpells
import Derived.WalkLawsBesides
import Derived.Lib.Hide
namespace Go.Proofs.Ytnckmaieghlpmaa
open Go.RowKit
set_option linter.unusedVariables false

/-- The cells from an address on hold these bytes. -/
def At (w : World) (a : Option Addr) (bs : List UInt8) : Prop :=
  bs = [] ∨ ∃ b o, a = some ⟨b, o, none⟩ ∧ ∀ i x, bs[i]? = some x → w.cell? ⟨b, o + i, none⟩ = some (.int .u8 (x.toNat : Int))

/-- A slice's value reads as these bytes, with such a capacity. -/
def Bsc (w : World) (v : Value) (bs : List UInt8) (c : Nat) : Prop :=
  ∃ a, v = .slice a bs.length c ∧ bs.length ≤ c ∧ c ≤ maxLen ∧ At w a bs

/-- A slice's value reads as these bytes. -/
def Bs (w : World) (v : Value) (bs : List UInt8) : Prop :=
  ∃ a c, v = .slice a bs.length c ∧ bs.length ≤ c ∧ c ≤ maxLen ∧ At w a bs

theorem Bsc.bs {w : World} {v : Value} {bs : List UInt8} {c : Nat} (h : Bsc w v bs c) : Bs w v bs := let ⟨a, h⟩ := h; ⟨a, c, h⟩
theorem Bs.cap {w : World} {v : Value} {bs : List UInt8} (h : Bs w v bs) : ∃ c, Bsc w v bs c := let ⟨a, c, h⟩ := h; ⟨c, a, h⟩

/-- the same cells in another world -/
theorem At.same {w w' : World} {a : Option Addr} {bs : List UInt8} (h : At w a bs) (hc : ∀ p v, w.cell? p = some v → w'.cell? p = some v) : At w' a bs := by
  rcases h with h | ⟨b, o, e, h⟩
  · exact .inl h
  · exact .inr ⟨b, o, e, fun i x hx => hc _ _ (h i x hx)⟩
theorem below_cells {w w' : World} (h : Below w.heap.size w w') (p : Addr) (v : Value) (hv : w.cell? p = some v) : w'.cell? p = some v := by
  rw [h.cell (World.block_lt_of_cell? w p hv)]; exact hv
theorem Bsc.same {w w' : World} {v : Value} {bs : List UInt8} {c : Nat} (h : Bsc w v bs c) (hc : ∀ p v, w.cell? p = some v → w'.cell? p = some v) : Bsc w' v bs c :=
  let ⟨a, e, l1, l2, h⟩ := h; ⟨a, e, l1, l2, h.same hc⟩
theorem Bs.same {w w' : World} {v : Value} {bs : List UInt8} (h : Bs w v bs) (hc : ∀ p v, w.cell? p = some v → w'.cell? p = some v) : Bs w' v bs :=
  let ⟨a, c, e, l1, l2, h⟩ := h; ⟨a, c, e, l1, l2, h.same hc⟩
theorem Bsc.below {w w' : World} {v : Value} {bs : List UInt8} {c : Nat} (h : Bsc w v bs c) (hb : Below w.heap.size w w') : Bsc w' v bs c := h.same (below_cells hb)
theorem Bs.below {w w' : World} {v : Value} {bs : List UInt8} (h : Bs w v bs) (hb : Below w.heap.size w w') : Bs w' v bs := h.same (below_cells hb)

theorem below_alloc (w : World) (o : Obj) : Below w.heap.size w (w.alloc o) := (Below.refl _ _).alloc (Nat.le_refl _) _
theorem size_alloc (w : World) (o : Obj) : (w.alloc o).heap.size = w.heap.size + 1 := by simp
theorem below_past {w w1 : World} {o : Obj} (h : Below (w.alloc o).heap.size (w.alloc o) w1) : Below w.heap.size w w1 :=
  (below_alloc w o).trans (h.mono (by simp))
theorem Bs.alloc {w : World} {v : Value} {bs : List UInt8} (h : Bs w v bs) (o : Obj) : Bs (w.alloc o) v bs := h.below (below_alloc w o)
theorem Bsc.alloc {w : World} {v : Value} {bs : List UInt8} {c : Nat} (h : Bsc w v bs c) (o : Obj) : Bsc (w.alloc o) v bs c := h.below (below_alloc w o)
theorem below_drewN (w : World) (n : Nat) : Below w.heap.size w (w.drewN n) := ⟨rfl, rfl, rfl, Nat.le_refl _, fun _ _ => rfl⟩

/-- a new block of bytes -/
theorem bs_new (w : World) (bs : List UInt8) (cs : Array Value) (t : TypeId) (fr : Nat × Nat) (hcs : cs.toList = bs.map (fun x => .int .u8 (x.toNat : Int))) (hl : bs.length ≤ maxLen) :
    Bs (w.alloc (.cells cs t fr)) (.slice (some ⟨w.heap.size, 0, none⟩) bs.length bs.length) bs := by
  refine ⟨_, _, rfl, Nat.le_refl _, hl, .inr ⟨_, _, rfl, fun i x hx => ?_⟩⟩
  rw [World.cell?_alloc_mark, Nat.zero_add, ← Array.getElem?_toList, hcs, List.getElem?_map, hx]; rfl

/-- the cell of a new block, behind a call that leaves what was there -/
theorem cell_behind {w w1 : World} {o : Obj} (h : Below (w.alloc o).heap.size (w.alloc o) w1) (j : Nat) : w1.cell? ⟨w.heap.size, j, none⟩ = (w.alloc o).cell? ⟨w.heap.size, j, none⟩ :=
  h.cell (p := ⟨w.heap.size, j, none⟩) (by simp)

/-- a piece of a slice -/
theorem At.piece {w : World} {a : Option Addr} {bs : List UInt8} (h : At w a bs) (l n : Nat) : At w (a.map (·.add l)) ((bs.drop l).take n) := by
  rcases h with h | ⟨b, o, e, h⟩
  · exact .inl (by simp [h])
  · refine .inr ⟨b, o + l, by subst e; simp [Addr.add]; try (intro hl; simp [hl]), fun i x hx => ?_⟩
    have hx' : bs[l + i]? = some x := by
      rw [List.getElem?_take] at hx
      split at hx
      · rwa [List.getElem?_drop] at hx
      · cases hx
    have := h (l + i) x hx'
    rwa [← Nat.add_assoc] at this
theorem bsc_sliced {w : World} {a : Option Addr} {bs : List UInt8} {n c : Nat} (h : Bsc w (.slice a n c) bs c) {l hi m : Nat} (h1 : l ≤ hi) (h2 : hi ≤ m) (h3 : m ≤ c) (h4 : hi ≤ bs.length) :
    Bsc w (sliced a l hi m 1) ((bs.drop l).take (hi - l)) (m - l) := by
  obtain ⟨a', e, l1, l2, hat⟩ := h
  simp only [Value.slice.injEq] at e
  obtain ⟨rfl, rfl, -⟩ := e
  have hlen : ((bs.drop l).take (hi - l)).length = hi - l := by simp; omega
  refine ⟨_, by rw [sliced, hlen], by omega, by omega, ?_⟩
  split
  · left; apply List.eq_nil_of_length_eq_zero; omega
  · rw [Nat.mul_one]; exact hat.piece l (hi - l)

theorem bsc_nothing (w : World) (a : Option Addr) (bs : List UInt8) (h : bs = []) (c : Nat) (hc : c ≤ maxLen) : Bsc w (.slice a 0 c) bs c := by
  subst h; exact ⟨a, rfl, Nat.zero_le _, hc, .inl rfl⟩
theorem bsc_piece {w : World} {a : Option Addr} {bs : List UInt8} (h : At w a bs) {n m c : Nat} (h1 : n + m ≤ bs.length) (h2 : m ≤ c) (h3 : c ≤ maxLen) :
    Bsc w (.slice (a.map (·.add n)) m c) ((bs.drop n).take m) c :=
  have hl : ((bs.drop n).take m).length = m := by simp; omega
  ⟨_, by rw [hl], by omega, h3, h.piece n m⟩

/-- the cells from an address on hold these numbers -/
def NumsAt (w : World) (k : IntKind) (a : Option Addr) (zs : List Int) : Prop :=
  zs = [] ∨ ∃ b o, a = some ⟨b, o, none⟩ ∧ ∀ i z, zs[i]? = some z → w.cell? ⟨b, o + i, none⟩ = some (.int k z)
theorem NumsAt.below {w w' : World} {k : IntKind} {a : Option Addr} {zs : List Int} (h : NumsAt w k a zs) (hb : Below w.heap.size w w') : NumsAt w' k a zs := by
  rcases h with h | ⟨b, o, e, h⟩
  · exact .inl h
  · exact .inr ⟨b, o, e, fun i z hz => below_cells hb _ _ (h i z hz)⟩

/-- The cells from an address on hold rows of bytes. -/
def Rows2 (w : World) (a : Option Addr) (L : List (List UInt8)) : Prop :=
  L = [] ∨ ∃ b o, a = some ⟨b, o, none⟩ ∧ ∀ i bs, L[i]? = some bs → ∃ v, w.cell? ⟨b, o + i, none⟩ = some v ∧ Bs w v bs

/-- a new block of rows -/
theorem rows2_new (w : World) (L : List (List UInt8)) (cs : Array Value) (t : TypeId) (fr : Nat × Nat) (h : ∀ (i : Nat) bs, L[i]? = some bs → ∃ v, cs[i]? = some v ∧ Bs w v bs) :
    Rows2 (w.alloc (.cells cs t fr)) (some ⟨w.heap.size, 0, none⟩) L :=
  .inr ⟨_, _, rfl, fun i bs hi => let ⟨v, hv, hb⟩ := h i bs hi; ⟨v, by rw [World.cell?_alloc_mark, Nat.zero_add]; exact hv, hb.alloc _⟩⟩
theorem rows2_one {w : World} {v : Value} {bs : List UInt8} (t : TypeId) (fr : Nat × Nat) (h : Bs w v bs) {n : Nat} (hn : n = w.heap.size) : Rows2 (w.alloc (.cells #[v] t fr)) (some ⟨n, 0, none⟩) [bs] :=
  hn ▸ rows2_new w _ _ t fr fun i b hi => by
    match i, hi with
    | 0, hi => simp at hi; subst hi; exact ⟨v, rfl, h⟩
theorem rows2_two {w : World} {v v' : Value} {bs bs' : List UInt8} (t : TypeId) (fr : Nat × Nat) (h : Bs w v bs) (h' : Bs w v' bs') {n : Nat} (hn : n = w.heap.size) : Rows2 (w.alloc (.cells #[v, v'] t fr)) (some ⟨n, 0, none⟩) [bs, bs'] :=
  hn ▸ rows2_new w _ _ t fr fun i b hi => by
    match i, hi with
    | 0, hi => simp at hi; subst hi; exact ⟨v, rfl, h⟩
    | 1, hi => simp at hi; subst hi; exact ⟨v', rfl, h'⟩
theorem Rows2.same {w w' : World} {a : Option Addr} {L : List (List UInt8)} (h : Rows2 w a L) (hc : ∀ p v, w.cell? p = some v → w'.cell? p = some v) : Rows2 w' a L := by
  rcases h with h | ⟨b, o, e, h⟩
  · exact .inl h
  · exact .inr ⟨b, o, e, fun i bs hi => let ⟨v, hv, hb⟩ := h i bs hi; ⟨v, hc _ _ hv, hb.same hc⟩⟩
theorem Rows2.below {w w' : World} {a : Option Addr} {L : List (List UInt8)} (h : Rows2 w a L) (hb : Below w.heap.size w w') : Rows2 w' a L := h.same (below_cells hb)

/-- The sum of the pairs. -/
def raw : Bool → List UInt8 → Nat
  | _, [] => 0
  | odd, x :: r => (if odd then x.toNat else x.toNat * 256) + raw (!odd) r

/-- The parity behind so many more. -/
def par (odd : Bool) (n : Nat) : Bool := xor odd (n % 2 == 1)

theorem par_zero (odd : Bool) : par odd 0 = odd := by simp [par]
theorem par_succ (odd : Bool) (n : Nat) : par odd (n + 1) = !par odd n := by
  unfold par
  rcases Nat.mod_two_eq_zero_or_one n with h | h
  · have : (n + 1) % 2 = 1 := by omega
    simp [h, this]
  · have : (n + 1) % 2 = 0 := by omega
    simp [h, this]

theorem raw_append (odd : Bool) (a b : List UInt8) : raw odd (a ++ b) = raw odd a + raw (par odd a.length) b := by
  induction a generalizing odd with
  | nil => simp [raw, par]
  | cons x r ih =>
    simp only [List.cons_append, raw, ih, List.length_cons, par_succ]
    have : par (!odd) r.length = !par odd r.length := by unfold par; cases odd <;> cases (r.length % 2 == 1) <;> rfl
    rw [this]; omega

theorem raw_snoc (odd : Bool) (a : List UInt8) (x : UInt8) : raw odd (a ++ [x]) = raw odd a + if par odd a.length then x.toNat else x.toNat * 256 := by
  rw [raw_append]; simp [raw]

theorem raw_le (odd : Bool) (a : List UInt8) : raw odd a ≤ 65280 * a.length := by
  induction a generalizing odd with
  | nil => simp [raw]
  | cons x r ih =>
    have := ih (!odd); have hx : x.toNat < 256 := x.toNat_lt
    simp only [raw, List.length_cons]
    split <;> omega

/-- What the carries make of a sum. -/
def fold16 (s : Nat) : Nat := if s = 0 then 0 else (s - 1) % 65535 + 1

/-- The checksum of bytes. -/
def csum (bs : List UInt8) : Nat := 65535 - fold16 (raw false bs)

theorem fold16_step (s : Nat) (h : 65535 < s) : fold16 (s / 65536 + s % 65536) = fold16 s := by
  unfold fold16
  rw [if_neg (by omega), if_neg (by omega)]
  omega
theorem fold16_small (s : Nat) (h : s ≤ 65535) : fold16 s = s := by
  unfold fold16; split <;> omega
theorem fold16_le (s : Nat) : fold16 s ≤ 65535 := by
  unfold fold16; split <;> omega

end Go.Proofs.Ytnckmaieghlpmaa
