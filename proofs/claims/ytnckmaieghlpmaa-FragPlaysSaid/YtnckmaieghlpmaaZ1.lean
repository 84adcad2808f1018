/-
  What it is for a slice to read as bytes, or as a list of rows of bytes, in a world; small laws on these.
  The walk of Row.Cut.
  Numbers out of bytes, either end first: plain.
  Small laws on bits: what and, or, xor make of natural numbers, in the walk's spelling.
  The walk of octet.Sum: the checksum of rows of bytes.
  The walk of Row.Get.
  The walk of horologeref07.Get.
  Get at any place, U16, U32, U64, Pad.
  A slice of bytes that the call itself made: append to it.
  Addresses as values: a flag and sixteen bytes; udp.mixed.
  The walk of Row.Put.
  The walk of udp.ahead: what stands ahead of a datagram.
  A struct of many cells in memory, by whole values: laws that the walk's own steps take (a load, a store), without an arm.
  string(b) of a slice of bytes.
  A part of a packet as a value of 39 cells; what such values do in memory.
  Walks of the small functions on parts: end, same, clash, bytes.Equal.
-/
import Derived.Test.YtnckmaieghlpmaaRows
import Derived.WalkKit
import Derived.WalkSpells
import Derived.WalkLawsBesides
import Derived.Lib.Hide
import Derived.Lib.EndianBits
import Derived.Laws.AppendOwnNone
import Derived.Laws.StructEq
import Derived.Deep.MidRow
import Derived.Outline
import Derived.Deep.RegionHeld3
import Derived.Deep.RegionLaw
import Derived.Laws.CopyOwn
import Derived.StillTailTactics
import Derived.Deep.QuietTactic
import Derived.BigQuiet
import Derived.Deep.DrawnRows
namespace Go.Proofs.Ytnckmaieghlpmaa
open Go.RowKit
set_option linter.unusedVariables false

/-- The cells from an address on hold these bytes. -/
def At (w : World) (a : Option Addr) (bs : List UInt8) : Prop :=
  bs = [] ∨ ∃ b o, a = some ⟨b, o, none⟩ ∧ ∀ i x, bs[i]? = some x → w.cell? ⟨b, o + i, none⟩ = some (.int .u8 (x.toNat : Int))

/-- A slice's value reads as these bytes, with such a capacity. -/
def Bsc (w : World) (v : Value) (bs : List UInt8) (c : Nat) : Prop :=
  ∃ a, v = .slice a bs.length c ∧ bs.length ≤ c ∧ c ≤ maxLen ∧ At w a bs

/-- A slice's value reads as these bytes. -/
def Bs (w : World) (v : Value) (bs : List UInt8) : Prop :=
  ∃ a c, v = .slice a bs.length c ∧ bs.length ≤ c ∧ c ≤ maxLen ∧ At w a bs

theorem Bsc.bs {w : World} {v : Value} {bs : List UInt8} {c : Nat} (h : Bsc w v bs c) : Bs w v bs := let ⟨a, h⟩ := h; ⟨a, c, h⟩
theorem Bs.cap {w : World} {v : Value} {bs : List UInt8} (h : Bs w v bs) : ∃ c, Bsc w v bs c := let ⟨a, c, h⟩ := h; ⟨c, a, h⟩

/-- the same cells in another world -/
theorem At.same {w w' : World} {a : Option Addr} {bs : List UInt8} (h : At w a bs) (hc : ∀ p v, w.cell? p = some v → w'.cell? p = some v) : At w' a bs := by
  rcases h with h | ⟨b, o, e, h⟩
  · exact .inl h
  · exact .inr ⟨b, o, e, fun i x hx => hc _ _ (h i x hx)⟩
theorem below_cells {w w' : World} (h : Below w.heap.size w w') (p : Addr) (v : Value) (hv : w.cell? p = some v) : w'.cell? p = some v := by
  rw [h.cell (World.block_lt_of_cell? w p hv)]; exact hv
theorem Bsc.same {w w' : World} {v : Value} {bs : List UInt8} {c : Nat} (h : Bsc w v bs c) (hc : ∀ p v, w.cell? p = some v → w'.cell? p = some v) : Bsc w' v bs c :=
  let ⟨a, e, l1, l2, h⟩ := h; ⟨a, e, l1, l2, h.same hc⟩
theorem Bs.same {w w' : World} {v : Value} {bs : List UInt8} (h : Bs w v bs) (hc : ∀ p v, w.cell? p = some v → w'.cell? p = some v) : Bs w' v bs :=
  let ⟨a, c, e, l1, l2, h⟩ := h; ⟨a, c, e, l1, l2, h.same hc⟩
theorem Bsc.below {w w' : World} {v : Value} {bs : List UInt8} {c : Nat} (h : Bsc w v bs c) (hb : Below w.heap.size w w') : Bsc w' v bs c := h.same (below_cells hb)
theorem Bs.below {w w' : World} {v : Value} {bs : List UInt8} (h : Bs w v bs) (hb : Below w.heap.size w w') : Bs w' v bs := h.same (below_cells hb)

theorem below_alloc (w : World) (o : Obj) : Below w.heap.size w (w.alloc o) := (Below.refl _ _).alloc (Nat.le_refl _) _
theorem size_alloc (w : World) (o : Obj) : (w.alloc o).heap.size = w.heap.size + 1 := by simp
theorem below_past {w w1 : World} {o : Obj} (h : Below (w.alloc o).heap.size (w.alloc o) w1) : Below w.heap.size w w1 :=
  (below_alloc w o).trans (h.mono (by simp))
theorem Bs.alloc {w : World} {v : Value} {bs : List UInt8} (h : Bs w v bs) (o : Obj) : Bs (w.alloc o) v bs := h.below (below_alloc w o)
theorem Bsc.alloc {w : World} {v : Value} {bs : List UInt8} {c : Nat} (h : Bsc w v bs c) (o : Obj) : Bsc (w.alloc o) v bs c := h.below (below_alloc w o)
theorem below_drewN (w : World) (n : Nat) : Below w.heap.size w (w.drewN n) := ⟨rfl, rfl, rfl, Nat.le_refl _, fun _ _ => rfl⟩

/-- a new block of bytes -/
theorem bs_new (w : World) (bs : List UInt8) (cs : Array Value) (t : TypeId) (fr : Nat × Nat) (hcs : cs.toList = bs.map (fun x => .int .u8 (x.toNat : Int))) (hl : bs.length ≤ maxLen) :
    Bs (w.alloc (.cells cs t fr)) (.slice (some ⟨w.heap.size, 0, none⟩) bs.length bs.length) bs := by
  refine ⟨_, _, rfl, Nat.le_refl _, hl, .inr ⟨_, _, rfl, fun i x hx => ?_⟩⟩
  rw [World.cell?_alloc_mark, Nat.zero_add, ← Array.getElem?_toList, hcs, List.getElem?_map, hx]; rfl

/-- the cell of a new block, behind a call that leaves what was there -/
theorem cell_behind {w w1 : World} {o : Obj} (h : Below (w.alloc o).heap.size (w.alloc o) w1) (j : Nat) : w1.cell? ⟨w.heap.size, j, none⟩ = (w.alloc o).cell? ⟨w.heap.size, j, none⟩ :=
  h.cell (p := ⟨w.heap.size, j, none⟩) (by simp)

/-- a piece of a slice -/
theorem At.piece {w : World} {a : Option Addr} {bs : List UInt8} (h : At w a bs) (l n : Nat) : At w (a.map (·.add l)) ((bs.drop l).take n) := by
  rcases h with h | ⟨b, o, e, h⟩
  · exact .inl (by simp [h])
  · refine .inr ⟨b, o + l, by subst e; simp [Addr.add]; try (intro hl; simp [hl]), fun i x hx => ?_⟩
    have hx' : bs[l + i]? = some x := by
      rw [List.getElem?_take] at hx
      split at hx
      · rwa [List.getElem?_drop] at hx
      · cases hx
    have := h (l + i) x hx'
    rwa [← Nat.add_assoc] at this
theorem bsc_sliced {w : World} {a : Option Addr} {bs : List UInt8} {n c : Nat} (h : Bsc w (.slice a n c) bs c) {l hi m : Nat} (h1 : l ≤ hi) (h2 : hi ≤ m) (h3 : m ≤ c) (h4 : hi ≤ bs.length) :
    Bsc w (sliced a l hi m 1) ((bs.drop l).take (hi - l)) (m - l) := by
  obtain ⟨a', e, l1, l2, hat⟩ := h
  simp only [Value.slice.injEq] at e
  obtain ⟨rfl, rfl, -⟩ := e
  have hlen : ((bs.drop l).take (hi - l)).length = hi - l := by simp; omega
  refine ⟨_, by rw [sliced, hlen], by omega, by omega, ?_⟩
  split
  · left; apply List.eq_nil_of_length_eq_zero; omega
  · rw [Nat.mul_one]; exact hat.piece l (hi - l)

theorem bsc_nothing (w : World) (a : Option Addr) (bs : List UInt8) (h : bs = []) (c : Nat) (hc : c ≤ maxLen) : Bsc w (.slice a 0 c) bs c := by
  subst h; exact ⟨a, rfl, Nat.zero_le _, hc, .inl rfl⟩
theorem bsc_piece {w : World} {a : Option Addr} {bs : List UInt8} (h : At w a bs) {n m c : Nat} (h1 : n + m ≤ bs.length) (h2 : m ≤ c) (h3 : c ≤ maxLen) :
    Bsc w (.slice (a.map (·.add n)) m c) ((bs.drop n).take m) c :=
  have hl : ((bs.drop n).take m).length = m := by simp; omega
  ⟨_, by rw [hl], by omega, h3, h.piece n m⟩

/-- the cells from an address on hold these numbers -/
def NumsAt (w : World) (k : IntKind) (a : Option Addr) (zs : List Int) : Prop :=
  zs = [] ∨ ∃ b o, a = some ⟨b, o, none⟩ ∧ ∀ i z, zs[i]? = some z → w.cell? ⟨b, o + i, none⟩ = some (.int k z)
theorem NumsAt.below {w w' : World} {k : IntKind} {a : Option Addr} {zs : List Int} (h : NumsAt w k a zs) (hb : Below w.heap.size w w') : NumsAt w' k a zs := by
  rcases h with h | ⟨b, o, e, h⟩
  · exact .inl h
  · exact .inr ⟨b, o, e, fun i z hz => below_cells hb _ _ (h i z hz)⟩

/-- The cells from an address on hold rows of bytes. -/
def Rows2 (w : World) (a : Option Addr) (L : List (List UInt8)) : Prop :=
  L = [] ∨ ∃ b o, a = some ⟨b, o, none⟩ ∧ ∀ i bs, L[i]? = some bs → ∃ v, w.cell? ⟨b, o + i, none⟩ = some v ∧ Bs w v bs

/-- a new block of rows -/
theorem rows2_new (w : World) (L : List (List UInt8)) (cs : Array Value) (t : TypeId) (fr : Nat × Nat) (h : ∀ (i : Nat) bs, L[i]? = some bs → ∃ v, cs[i]? = some v ∧ Bs w v bs) :
    Rows2 (w.alloc (.cells cs t fr)) (some ⟨w.heap.size, 0, none⟩) L :=
  .inr ⟨_, _, rfl, fun i bs hi => let ⟨v, hv, hb⟩ := h i bs hi; ⟨v, by rw [World.cell?_alloc_mark, Nat.zero_add]; exact hv, hb.alloc _⟩⟩
theorem rows2_one {w : World} {v : Value} {bs : List UInt8} (t : TypeId) (fr : Nat × Nat) (h : Bs w v bs) {n : Nat} (hn : n = w.heap.size) : Rows2 (w.alloc (.cells #[v] t fr)) (some ⟨n, 0, none⟩) [bs] :=
  hn ▸ rows2_new w _ _ t fr fun i b hi => by
    match i, hi with
    | 0, hi => simp at hi; subst hi; exact ⟨v, rfl, h⟩
theorem rows2_two {w : World} {v v' : Value} {bs bs' : List UInt8} (t : TypeId) (fr : Nat × Nat) (h : Bs w v bs) (h' : Bs w v' bs') {n : Nat} (hn : n = w.heap.size) : Rows2 (w.alloc (.cells #[v, v'] t fr)) (some ⟨n, 0, none⟩) [bs, bs'] :=
  hn ▸ rows2_new w _ _ t fr fun i b hi => by
    match i, hi with
    | 0, hi => simp at hi; subst hi; exact ⟨v, rfl, h⟩
    | 1, hi => simp at hi; subst hi; exact ⟨v', rfl, h'⟩
theorem Rows2.same {w w' : World} {a : Option Addr} {L : List (List UInt8)} (h : Rows2 w a L) (hc : ∀ p v, w.cell? p = some v → w'.cell? p = some v) : Rows2 w' a L := by
  rcases h with h | ⟨b, o, e, h⟩
  · exact .inl h
  · exact .inr ⟨b, o, e, fun i bs hi => let ⟨v, hv, hb⟩ := h i bs hi; ⟨v, hc _ _ hv, hb.same hc⟩⟩
theorem Rows2.below {w w' : World} {a : Option Addr} {L : List (List UInt8)} (h : Rows2 w a L) (hb : Below w.heap.size w w') : Rows2 w' a L := h.same (below_cells hb)

/-- The sum of the pairs. -/
def raw : Bool → List UInt8 → Nat
  | _, [] => 0
  | odd, x :: r => (if odd then x.toNat else x.toNat * 256) + raw (!odd) r

/-- The parity behind so many more. -/
def par (odd : Bool) (n : Nat) : Bool := xor odd (n % 2 == 1)

theorem par_zero (odd : Bool) : par odd 0 = odd := by simp [par]
theorem par_succ (odd : Bool) (n : Nat) : par odd (n + 1) = !par odd n := by
  unfold par
  rcases Nat.mod_two_eq_zero_or_one n with h | h
  · have : (n + 1) % 2 = 1 := by omega
    simp [h, this]
  · have : (n + 1) % 2 = 0 := by omega
    simp [h, this]

theorem raw_append (odd : Bool) (a b : List UInt8) : raw odd (a ++ b) = raw odd a + raw (par odd a.length) b := by
  induction a generalizing odd with
  | nil => simp [raw, par]
  | cons x r ih =>
    simp only [List.cons_append, raw, ih, List.length_cons, par_succ]
    have : par (!odd) r.length = !par odd r.length := by unfold par; cases odd <;> cases (r.length % 2 == 1) <;> rfl
    rw [this]; omega

theorem raw_snoc (odd : Bool) (a : List UInt8) (x : UInt8) : raw odd (a ++ [x]) = raw odd a + if par odd a.length then x.toNat else x.toNat * 256 := by
  rw [raw_append]; simp [raw]

theorem raw_le (odd : Bool) (a : List UInt8) : raw odd a ≤ 65280 * a.length := by
  induction a generalizing odd with
  | nil => simp [raw]
  | cons x r ih =>
    have := ih (!odd); have hx : x.toNat < 256 := x.toNat_lt
    simp only [raw, List.length_cons]
    split <;> omega

/-- What the carries make of a sum. -/
def fold16 (s : Nat) : Nat := if s = 0 then 0 else (s - 1) % 65535 + 1

/-- The checksum of bytes. -/
def csum (bs : List UInt8) : Nat := 65535 - fold16 (raw false bs)

theorem fold16_step (s : Nat) (h : 65535 < s) : fold16 (s / 65536 + s % 65536) = fold16 s := by
  unfold fold16
  rw [if_neg (by omega), if_neg (by omega)]
  omega
theorem fold16_small (s : Nat) (h : s ≤ 65535) : fold16 s = s := by
  unfold fold16; split <;> omega
theorem fold16_le (s : Nat) : fold16 s ≤ 65535 := by
  unfold fold16; split <;> omega

end Go.Proofs.Ytnckmaieghlpmaa
namespace Go.Proofs.Ytnckmaieghlpmaa
open Go.RowKit
set_option linter.unusedVariables false

/-- what Cut returns where the bytes are there -/
def CutYes (w : World) (bs : List UInt8) (n m : Nat) (e : Ending) (w' : World) : Prop :=
  ∃ v, e = .returned (.tuple #[v, .bool true]) ∧ Bsc w' v ((bs.drop n).take m) m ∧ Below w.heap.size w w'
def CutNo (w : World) (e : Ending) (w' : World) : Prop :=
  e = .returned (.tuple #[.slice none 0 0, .bool false]) ∧ Below w.heap.size w w'

set_option maxHeartbeats 400000 in
theorem cut_yes (w : World) (v : Value) (bs : List UInt8) (lit : Bool) (n m : Nat) (hb : Bs w v bs) (h : n + m ≤ bs.length) :
    Calls Try.prog 28 #[.agg #[v, .bool lit], .int .i64 n, .int .i64 m] w (CutYes w bs n m) := by
  obtain ⟨a, c, rfl, hl1, hl2, hat⟩ := hb
  have HAT := Lib.hid hat
  clear hat
  unfold maxLen at hl2
  go_enter Try.func28, Try.ntmps28
  go_wp2
  · go_ret2
    have hb : Below w.heap.size w (w.alloc (Obj.cells #[Value.slice a bs.length c, Value.bool lit] 30)) := (Below.refl _ _).alloc (Nat.le_refl _) _
    exact ⟨_, rfl, by obtain rfl : m = 0 := by omega
                      exact bsc_nothing _ _ _ (by simp) _ (Nat.zero_le _), hb⟩
  · go_ret2
    have hb : Below w.heap.size w (w.alloc (Obj.cells #[Value.slice a bs.length c, Value.bool lit] 30)) := (Below.refl _ _).alloc (Nat.le_refl _) _
    exact ⟨_, rfl, bsc_piece (HAT.out.same (below_cells hb)) (by omega) (Nat.le_refl _) (by unfold maxLen; omega), hb⟩

set_option maxHeartbeats 400000 in
theorem cut_no (w : World) (v : Value) (bs : List UInt8) (lit : Bool) (n m : Int) (hb : Bs w v bs) (h : ¬ (0 ≤ n ∧ 0 ≤ m ∧ n + m ≤ bs.length)) :
    Calls Try.prog 28 #[.agg #[v, .bool lit], .int .i64 n, .int .i64 m] w (CutNo w) := by
  obtain ⟨a, c, rfl, hl1, hl2, hat⟩ := hb
  have HAT := Lib.hid hat
  clear hat
  unfold maxLen at hl2
  by_cases h1 : n < 0
  · go_enter Try.func28, Try.ntmps28
    go_wp2
    go_ret2
    exact ⟨rfl, (Below.refl _ _).alloc (Nat.le_refl _) _⟩
  · by_cases h2 : m < 0
    · go_enter Try.func28, Try.ntmps28
      go_wp2
      go_ret2
      exact ⟨rfl, (Below.refl _ _).alloc (Nat.le_refl _) _⟩
    · by_cases h3 : (bs.length : Int) < n
      · go_enter Try.func28, Try.ntmps28
        go_wp2
        go_ret2
        exact ⟨rfl, (Below.refl _ _).alloc (Nat.le_refl _) _⟩
      · have h4 : (bs.length : Int) - n < m := by omega
        go_enter Try.func28, Try.ntmps28
        go_wp2
        go_ret2
        exact ⟨rfl, (Below.refl _ _).alloc (Nat.le_refl _) _⟩
end Go.Proofs.Ytnckmaieghlpmaa
namespace Go.Proofs.Ytnckmaieghlpmaa
open Go.RowKit
set_option linter.unusedVariables false

def le : List UInt8 → Nat
  | [] => 0
  | x :: r => x.toNat + 256 * le r
def be (l : List UInt8) : Nat := le l.reverse
def num (little : Bool) (l : List UInt8) : Nat := if little then le l else be l

theorem le_append (a b : List UInt8) : le (a ++ b) = le a + 256 ^ a.length * le b := by
  induction a with
  | nil => simp [le]
  | cons x r ih => simp only [List.cons_append, le, ih, List.length_cons, Nat.pow_succ]; rw [Nat.mul_add, Nat.mul_comm (256 ^ r.length) 256, Nat.mul_assoc]; omega
theorem le_lt (a : List UInt8) : le a < 256 ^ a.length := by
  induction a with
  | nil => simp [le]
  | cons x r ih =>
    have hx : x.toNat < 256 := x.toNat_lt
    simp only [le, List.length_cons, Nat.pow_succ]; omega
theorem be_lt (a : List UInt8) : be a < 256 ^ a.length := by have := le_lt a.reverse; simpa [be] using this
theorem le_snoc (a : List UInt8) (x : UInt8) : le (a ++ [x]) = le a + x.toNat * 256 ^ a.length := by
  rw [le_append]; simp [le, Nat.mul_comm]
theorem be_snoc (a : List UInt8) (x : UInt8) : be (a ++ [x]) = be a * 256 + x.toNat := by
  simp [be, le]; omega
theorem be_cons (x : UInt8) (a : List UInt8) : be (x :: a) = x.toNat * 256 ^ a.length + be a := by
  unfold be; rw [List.reverse_cons, le_snoc, List.length_reverse]; omega
theorem be_reverse (a : List UInt8) : be a.reverse = le a := by simp [be]
theorem le_reverse (a : List UInt8) : le a.reverse = be a := rfl
theorem num_lt (little : Bool) (a : List UInt8) : num little a < 256 ^ a.length := by
  unfold num; split
  · exact le_lt a
  · exact be_lt a
theorem pow256_le {k n : Nat} (h : k ≤ n) : 256 ^ k ≤ 256 ^ n := Nat.pow_le_pow_right (by decide) h

/-- the bytes of a number, the lowest first -/
def leB : Nat → Nat → List UInt8
  | _, 0 => []
  | n, m + 1 => UInt8.ofNat (n % 256) :: leB (n / 256) m
def numB (little : Bool) (n m : Nat) : List UInt8 := if little then leB n m else (leB n m).reverse

theorem leB_length (n m : Nat) : (leB n m).length = m := by
  induction m generalizing n with
  | zero => rfl
  | succ m ih => simp [leB, ih]
theorem numB_length (little : Bool) (n m : Nat) : (numB little n m).length = m := by
  unfold numB; split <;> simp [leB_length]
theorem leB_get (n m i : Nat) (h : i < m) : (leB n m)[i]? = some (UInt8.ofNat (n / 256 ^ i % 256)) := by
  induction m generalizing n i with
  | zero => omega
  | succ m ih =>
    cases i with
    | zero => simp [leB]
    | succ i =>
      simp only [leB, List.getElem?_cons_succ]
      rw [ih (n / 256) i (by omega), Nat.div_div_eq_div_mul, Nat.pow_succ, Nat.mul_comm 256]
theorem leB_snoc (n m : Nat) : leB n (m + 1) = leB n m ++ [UInt8.ofNat (n / 256 ^ m % 256)] := by
  induction m generalizing n with
  | zero => simp [leB]
  | succ m ih =>
    rw [leB, ih (n / 256), leB, List.cons_append, Nat.div_div_eq_div_mul, Nat.pow_succ, Nat.mul_comm (256 ^ m) 256]
theorem le_leB (n m : Nat) : le (leB n m) = n % 256 ^ m := by
  induction m generalizing n with
  | zero => simp [leB, le, Nat.mod_one]
  | succ m ih =>
    simp only [leB, le, ih]
    have hx : (UInt8.ofNat (n % 256)).toNat = n % 256 := by simp
    rw [hx, Nat.pow_succ, Nat.mul_comm (256 ^ m) 256, Nat.mod_mul]
theorem num_numB (little : Bool) (n m : Nat) : num little (numB little n m) = n % 256 ^ m := by
  unfold num numB
  cases little
  · simp only [Bool.false_eq_true, if_false]; rw [be_reverse, le_leB]
  · simp only [if_true]; exact le_leB n m
theorem numB_get (little : Bool) (n m k : Nat) (h : k < m) : (numB little n m)[k]? = some (UInt8.ofNat (n / 256 ^ (if little then k else m - 1 - k) % 256)) := by
  unfold numB
  cases little
  · simp only [Bool.false_eq_true, if_false]
    rw [List.getElem?_reverse (by rw [leB_length]; exact h), leB_length, leB_get _ _ _ (by omega)]
  · simp only [if_true]; exact leB_get n m k h
end Go.Proofs.Ytnckmaieghlpmaa
namespace Go.Proofs.Ytnckmaieghlpmaa
open Go.RowKit
set_option linter.unusedVariables false

theorem and64_16 (t : Nat) (h : t < 18446744073709551616) : bits BinOp.and IntKind.u64 (t : Int) 65535 = ((t % 65536 : Nat) : Int) := by
  have := bits_mask .u64 64 (by decide) (fun n a b => Go.wraps_u64 n a b) 16 (by decide) (t : Int) (by omega) (by omega)
  rw [show (65535 : Int) = 2 ^ 16 - 1 from rfl, this]
  simp

theorem not16 (t : Nat) (h : t ≤ 65535) : bits BinOp.xor IntKind.u16 IntKind.u16.max (t : Int) = ((65535 - t : Nat) : Int) := by
  have h1 : (BitVec.ofInt 16 (t : Int)).toNat = t := by
    rw [BitVec.ofInt_natCast, BitVec.toNat_ofNat]; exact Nat.mod_eq_of_lt (by omega)
  have h0 : (BitVec.ofInt 16 IntKind.u16.max) = BitVec.allOnes 16 := by decide
  show IntKind.u16.wrap ((BitVec.ofInt 16 IntKind.u16.max ^^^ BitVec.ofInt 16 (t : Int)).toNat : Int) = _
  rw [h0, BitVec.allOnes_xor, BitVec.toNat_not, h1, IntKind.wrap_u16]
  omega

/-- or of what lies apart: the low part below 2^i, the high part a multiple of it -/
theorem or64_add (i a b : Nat) (hb : b < 2 ^ i) (ha : a % 2 ^ i = 0) (h : a + b < 18446744073709551616) :
    bits BinOp.or IntKind.u64 (a : Int) (b : Int) = ((a + b : Nat) : Int) := by
  have := bits_join .u64 64 (by decide) (fun n a b => Go.wraps_u64 n a b) i (a : Int) (b : Int) (by omega) (by exact_mod_cast ha) (by omega) (by omega) (by exact_mod_cast hb) (by omega)
  rw [this]; simp
theorem or64_comm (x y : Int) : bits BinOp.or IntKind.u64 x y = bits BinOp.or IntKind.u64 y x := by
  simp only [bits, BitVec.or_comm]
theorem pow256 (k : Nat) : 2 ^ (8 * k) = 256 ^ k := by rw [Nat.pow_mul]
theorem or64_little (s x k : Nat) (hs : s < 256 ^ k) (hk : k < 8) (hx : x < 256) :
    bits BinOp.or IntKind.u64 (s : Int) (IntKind.u64.wrap ((x : Int) * 2 ^ (8 * k))) = ((s + x * 256 ^ k : Nat) : Int) := by
  have h1 : 256 ^ (k + 1) ≤ 256 ^ 8 := Nat.pow_le_pow_right (by decide) (by omega)
  have h2 : x * 256 ^ k + 256 ^ k ≤ 256 ^ (k + 1) := by
    rw [Nat.pow_succ, ← Nat.succ_mul, Nat.mul_comm]; exact Nat.mul_le_mul_left _ hx
  have h3 : ((x : Int) * 2 ^ (8 * k)) = ((x * 256 ^ k : Nat) : Int) := by rw [← pow256]; simp
  have h4 : IntKind.u64.wrap ((x : Int) * 2 ^ (8 * k)) = ((x * 256 ^ k : Nat) : Int) := by
    rw [h3]; exact Go.wraps_u64 _ (by omega) (by omega)
  rw [h4, or64_comm, or64_add (8 * k) (x * 256 ^ k) s (by rw [pow256]; exact hs) (by rw [pow256]; simp) (by omega)]
  omega
theorem mask_many (n m : Nat) (hn : n < 18446744073709551616) (hm : m ≤ 8) :
    bits BinOp.and IntKind.u64 (n : Int) (IntKind.u64.wrap (IntKind.u64.wrap (2 ^ (8 * m)) - 1)) = ((n % 256 ^ m : Nat) : Int) := by
  have e : IntKind.u64.wrap (IntKind.u64.wrap ((2 : Int) ^ (8 * m)) - 1) = (2 : Int) ^ (8 * m) - 1 := by
    rw [IntKind.wrap_u64, IntKind.wrap_u64]
    match m, hm with
    | 0, _ => decide
    | 1, _ => decide
    | 2, _ => decide
    | 3, _ => decide
    | 4, _ => decide
    | 5, _ => decide
    | 6, _ => decide
    | 7, _ => decide
    | 8, _ => decide
  rw [e, bits_mask .u64 64 (by decide) (fun n a b => Go.wraps_u64 n a b) (8 * m) (by omega) (n : Int) (by omega) (by omega)]
  rw [← pow256]; simp
end Go.Proofs.Ytnckmaieghlpmaa
namespace Go.Proofs.Ytnckmaieghlpmaa
open Go.RowKit
set_option linter.unusedVariables false

theorem take_snoc' {α : Type} {l : List α} {k : Nat} {x : α} (h : l[k]? = some x) : l.take (k + 1) = l.take k ++ [x] := by
  rw [List.take_add_one, h]; rfl

/-- the bytes of the rows ahead of row k, and of the first j of row k -/
def upTo (L : List (List UInt8)) (k : Nat) : List UInt8 := (L.take k).flatten

theorem upTo_succ {L : List (List UInt8)} {k : Nat} {bs : List UInt8} (h : L[k]? = some bs) : upTo L (k + 1) = upTo L k ++ bs := by
  unfold upTo; rw [take_snoc' h]; simp
theorem upTo_all (L : List (List UInt8)) : upTo L L.length = L.flatten := by simp [upTo]
theorem upTo_len (L : List (List UInt8)) (k : Nat) : (upTo L k).length ≤ L.flatten.length := by
  have h : L.flatten = (L.take k).flatten ++ (L.drop k).flatten := by rw [← List.flatten_append, List.take_append_drop]
  rw [h]; simp [upTo]

/-- what the sum and its parity are behind so many bytes -/
def odds (bs : List UInt8) : Bool := par false bs.length
theorem odds_nil : odds [] = false := rfl
theorem odds_snoc (bs : List UInt8) (x : UInt8) : odds (bs ++ [x]) = !odds bs := by
  unfold odds; simp [par_succ]
theorem raw_snoc' (bs : List UInt8) (x : UInt8) : raw false (bs ++ [x]) = raw false bs + if odds bs then x.toNat else x.toNat * 256 := raw_snoc false bs x
theorem raw_le' (bs : List UInt8) : raw false bs ≤ 65280 * bs.length := raw_le _ _

set_option maxHeartbeats 400000 in
theorem sum_any (w : World) (a : Option Addr) (c : Nat) (L : List (List UInt8)) (hL : L.length ≤ 1099511627776) (hf : L.flatten.length ≤ 1099511627776) (h : Rows2 w a L) :
    Calls Try.prog 24 #[.slice a L.length c] w fun e w' => e = .returned (.int .u16 (csum L.flatten)) ∧ w = w' := by
  obtain ⟨C, hC⟩ : ∃ C, C = csum L.flatten := ⟨_, rfl⟩
  rw [← hC]
  have HC := Lib.hid hC
  clear hC
  go_enter Try.func24, Try.ntmps24
  go_wp2
  go_loop [3, 4, 11] (fun s od i => ∃ k : Nat, k ≤ L.length ∧ i = .int .i64 k ∧ od = .bool (odds (upTo L k)) ∧ s = .int .u64 (raw false (upTo L k) : Nat)) (fun _ _ i => L.length - (intOf i).toNat)
  case atStart => exact ⟨0, Nat.zero_le _, rfl, rfl, rfl⟩
  case round =>
    obtain ⟨k, hk, rfl, rfl, rfl⟩ := hrel
    have H := Lib.hid h; clear h
    by_cases hlt : k < L.length
    · obtain ⟨b, o, rfl, hc⟩ : ∃ b o, a = some ⟨b, o, none⟩ ∧ ∀ i bs, L[i]? = some bs → ∃ v, w.cell? ⟨b, o + i, none⟩ = some v ∧ Bs w v bs := by
        rcases H.out with h | h
        · simp [h] at hlt
        · exact h
      obtain ⟨bs, hbs⟩ : ∃ bs, L[k]? = some bs := ⟨L[k], by simp [hlt]⟩
      obtain ⟨v, hv, a1, c1, rfl, hl1, hl2, hat⟩ := hc k bs hbs
      have HAT := Lib.hid hat
      have hup := upTo_succ hbs
      have hlen := upTo_len L (k + 1)
      rw [hup, List.length_append] at hlen
      have HUP := Lib.hid hup
      clear hat hup hc
      obtain ⟨pre, hpre⟩ : ∃ pre, pre = upTo L k := ⟨_, rfl⟩
      rw [← hpre] at HUP hlen ⊢
      clear hpre H hbs
      unfold maxLen at hl2
      go_wp2
      go_loop [3, 4, 17] (fun s od i => ∃ j : Nat, j ≤ bs.length ∧ i = .int .i64 j ∧ od = .bool (odds (pre ++ bs.take j)) ∧ s = .int .u64 (raw false (pre ++ bs.take j) : Nat)) (fun _ _ i => bs.length - (intOf i).toNat)
      case atStart => exact ⟨0, Nat.zero_le _, rfl, by simp, by simp⟩
      case round =>
        obtain ⟨j, hj, rfl, rfl, rfl⟩ := hrel
        have hb := raw_le' (pre ++ bs.take j)
        have hlj : (pre ++ bs.take j).length ≤ 1099511627776 := by simp; omega
        by_cases hlt2 : j < bs.length
        · obtain ⟨b2, o2, rfl, hc2⟩ : ∃ b o, a1 = some ⟨b, o, none⟩ ∧ ∀ i x, bs[i]? = some x → w.cell? ⟨b, o + i, none⟩ = some (.int .u8 (x.toNat : Int)) := by
            rcases HAT.out with h | h
            · simp [h] at hlt2
            · exact h
          obtain ⟨x, hx⟩ : ∃ x, bs[j]? = some x := ⟨bs[j], by simp [hlt2]⟩
          have hcx := hc2 j x hx
          have hsn : pre ++ bs.take (j + 1) = (pre ++ bs.take j) ++ [x] := by rw [take_snoc' hx, List.append_assoc]
          have hro := raw_snoc' (pre ++ bs.take j) x
          have hod := odds_snoc (pre ++ bs.take j) x
          rw [← hsn] at hro hod
          have HRO := Lib.hid hro
          have HOD := Lib.hid hod
          have hxb : x.toNat < 256 := x.toNat_lt
          clear hro hod hsn hx hc2
          obtain ⟨s, hs⟩ : ∃ s, s = raw false (pre ++ bs.take j) := ⟨_, rfl⟩
          obtain ⟨od, ho⟩ : ∃ od, od = odds (pre ++ bs.take j) := ⟨_, rfl⟩
          rw [← hs, ← ho] at HRO
          rw [← ho] at HOD
          rw [← hs] at hb ⊢
          rw [← ho]
          clear hs ho
          obtain ⟨xn, hxn⟩ : ∃ xn, xn = x.toNat := ⟨_, rfl⟩
          rw [← hxn] at HRO hcx hxb
          clear hxn
          cases od
          · go_wp2
            go_round
            case rel => exact ⟨j + 1, by omega, by go_num, by rw [HOD.out]; rfl, by rw [HRO.out]; simp⟩
            case measure => simp [intOf]; omega
          · go_wp2
            go_round
            case rel => exact ⟨j + 1, by omega, by go_num, by rw [HOD.out]; rfl, by rw [HRO.out]; rfl⟩
            case measure => simp [intOf]; omega
        · obtain rfl : j = bs.length := by omega
          rw [List.take_length] at *
          go_wp2
          go_round
          case rel => exact ⟨k + 1, by omega, by go_num, by rw [HUP.out], by rw [HUP.out]⟩
          case measure => simp [intOf]; omega
    · obtain rfl : k = L.length := by omega
      have hb := raw_le' (upTo L L.length)
      rw [upTo_all] at *
      obtain ⟨s0, hs0⟩ : ∃ s0, s0 = raw false L.flatten := ⟨_, rfl⟩
      obtain ⟨o0, ho0⟩ : ∃ o0, o0 = odds L.flatten := ⟨_, rfl⟩
      have HS : Hid (C = 65535 - fold16 s0) := by unfold Hid; rw [HC.out, hs0]; rfl
      rw [← hs0] at hb ⊢
      rw [← ho0]
      clear hs0 ho0 HC
      go_wp2
      go_loop [3] (fun s => ∃ t : Nat, t ≤ 1099511627776 * 65280 ∧ s = .int .u64 t ∧ fold16 t = fold16 s0) (fun s => (intOf s).toNat)
      case atStart => exact ⟨s0, by omega, rfl, rfl⟩
      case round =>
        obtain ⟨t, ht, rfl, hft⟩ := hrel
        have HF := Lib.hid hft
        clear hft
        by_cases htt : 65535 < t
        · have e1 := and64_16 t (by omega)
          go_wp2
          go_round
          case rel => exact ⟨t / 65536 + t % 65536, by omega, by go_num, by rw [fold16_step t htt]; exact HF.out⟩
          case measure => simp [intOf]; omega
        · have e1 := not16 t (by omega)
          have hC : C = 65535 - t := by rw [HS.out, ← HF.out, fold16_small t (by omega)]
          subst hC
          go_wp2
          go_ret
          exact ⟨rfl, rfl⟩
end Go.Proofs.Ytnckmaieghlpmaa
namespace Go.Proofs.Ytnckmaieghlpmaa
open Go.RowKit
set_option linter.unusedVariables false

theorem ret2_u64 {a b : Int} {c : Bool} (h : a = b) : Ending.returned (.tuple #[.int .u64 a, .bool c]) = .returned (.tuple #[.int .u64 b, .bool c]) := by rw [h]

/-- what Get returns -/
def GetYes (w : World) (k : Nat) (e : Ending) (w' : World) : Prop := e = .returned (.tuple #[.int .u64 k, .bool true]) ∧ Below w.heap.size w w'
def GetNo (w : World) (e : Ending) (w' : World) : Prop := e = .returned (.tuple #[.int .u64 0, .bool false]) ∧ Below w.heap.size w w'

theorem bcell {W w1 : World} (hb : Below W.heap.size W w1) : (∀ b o, b < W.heap.size → w1.cell? ⟨b, o, none⟩ = W.cell? ⟨b, o, none⟩) ∧ (∀ b o, b < W.heap.size → w1.frozen? ⟨b, o, none⟩ = W.frozen? ⟨b, o, none⟩) :=
  ⟨fun b o h => hb.cell (p := ⟨b, o, none⟩) h, fun b o h => hb.frozen (p := ⟨b, o, none⟩) h⟩

set_option maxHeartbeats 800000 in
theorem get_big (w : World) (v : Value) (bs : List UInt8) (n m : Nat) (hb : Bs w v bs) (h : n + m ≤ bs.length) (hm : m ≤ 8) :
    Calls Try.prog 26 #[.agg #[v, .bool false], .int .i64 n, .int .i64 m] w (GetYes w (be ((bs.drop n).take m))) := by
  have hlen : ((bs.drop n).take m).length = m := by simp; omega
  obtain ⟨seg, hseg⟩ : ∃ seg, seg = (bs.drop n).take m := ⟨_, rfl⟩
  rw [← hseg] at hlen ⊢
  obtain rfl : m = seg.length := hlen.symm
  have HSEG := Lib.hid hseg
  clear hseg hlen
  have HB := Lib.hid hb
  clear hb
  have hbd : be seg < 18446744073709551616 := by
    have h1 := be_lt seg
    have h2 : 256 ^ seg.length ≤ 256 ^ 8 := pow256_le hm
    omega
  go_enter Try.func26, Try.ntmps26
  go_wp2_with (go_at_call 28; refine (cut_yes _ v bs false n seg.length (HB.out.alloc _) h).mono ?_; rintro e w1 ⟨v1, rfl, hv1, hb1⟩; have hcl := (cell_behind hb1 1).trans (World.cell?_alloc_new ..); have HBE := Lib.hid (below_past hb1); rw [← HSEG.out] at hv1; obtain ⟨a1, rfl, hl1, hl2, hat⟩ := hv1; have HAT := Lib.hid hat; clear hat hb1)
  go_loop [10, 28] (fun q i => ∃ k s : Nat, k ≤ seg.length ∧ i = .int .i64 k ∧ q = .int .u64 s ∧ Hid (s = be (seg.take k))) (fun _ i => seg.length - (intOf i).toNat)
  case atStart => exact ⟨0, 0, Nat.zero_le _, rfl, rfl, rfl⟩
  case round =>
    obtain ⟨k, s, hk, rfl, rfl, HS⟩ := hrel
    by_cases hlt : k < seg.length
    · obtain ⟨b2, o2, rfl, hc2⟩ : ∃ b o, a1 = some ⟨b, o, none⟩ ∧ ∀ i x, seg[i]? = some x → w1.cell? ⟨b, o + i, none⟩ = some (.int .u8 (x.toNat : Int)) := by
        rcases HAT.out with h | h
        · simp [h] at hlt
        · exact h
      obtain ⟨x, hx⟩ : ∃ x, seg[k]? = some x := ⟨seg[k], by simp [hlt]⟩
      have hcx := hc2 k x hx
      have hsb : s < 72057594037927936 := by
        have h1 := be_lt (seg.take k)
        have h2 : 256 ^ (seg.take k).length ≤ 256 ^ 7 := pow256_le (by simp; omega)
        rw [HS.out]; omega
      have hstep : be (seg.take (k + 1)) = s * 256 + x.toNat := by rw [take_snoc' hx, be_snoc, HS.out]
      have HST := Lib.hid hstep
      clear hc2 hstep
      have hxb : x.toNat < 256 := x.toNat_lt
      obtain ⟨xn, hxn⟩ : ∃ xn, xn = x.toNat := ⟨_, rfl⟩
      rw [← hxn] at HST hcx hxb
      clear hxn hx
      have hor : bits BinOp.or IntKind.u64 ((s : Int) * 256) (xn : Int) = ((s * 256 + xn : Nat) : Int) := by
        have := or64_add 8 (s * 256) xn (by omega) (by omega) (by omega)
        simpa using this
      have HOR := Lib.hid hor
      clear hor
      go_wp2
      go_round
      case rel => exact ⟨k + 1, s * 256 + xn, by omega, by go_num, by rw [HOR.out], HST.out.symm⟩
      case measure => simp [intOf]; omega
    · obtain rfl : k = seg.length := by omega
      rw [List.take_length] at HS
      go_wp2
      go_ret2
      exact ⟨ret2_u64 (by rw [HS.out]), HBE.out⟩
set_option maxHeartbeats 800000 in
theorem get_little (w : World) (v : Value) (bs : List UInt8) (n m : Nat) (hb : Bs w v bs) (h : n + m ≤ bs.length) (hm : m ≤ 8) :
    Calls Try.prog 26 #[.agg #[v, .bool true], .int .i64 n, .int .i64 m] w (GetYes w (le ((bs.drop n).take m))) := by
  have hlen : ((bs.drop n).take m).length = m := by simp; omega
  obtain ⟨seg, hseg⟩ : ∃ seg, seg = (bs.drop n).take m := ⟨_, rfl⟩
  rw [← hseg] at hlen ⊢
  obtain rfl : m = seg.length := hlen.symm
  have HSEG := Lib.hid hseg
  clear hseg hlen
  have HB := Lib.hid hb
  clear hb
  have hbd : le seg < 18446744073709551616 := by
    have h1 := le_lt seg
    have h2 : 256 ^ seg.length ≤ 256 ^ 8 := pow256_le hm
    omega
  go_enter Try.func26, Try.ntmps26
  go_wp2_with (go_at_call 28; refine (cut_yes _ v bs true n seg.length (HB.out.alloc _) h).mono ?_; rintro e w1 ⟨v1, rfl, hv1, hb1⟩; have hcl := (cell_behind hb1 1).trans (World.cell?_alloc_new ..); have HBE := Lib.hid (below_past hb1); rw [← HSEG.out] at hv1; obtain ⟨a1, rfl, hl1, hl2, hat⟩ := hv1; have HAT := Lib.hid hat; clear hat hb1)
  go_loop [10, 28] (fun q i => ∃ k s : Nat, k ≤ seg.length ∧ i = .int .i64 k ∧ q = .int .u64 s ∧ Hid (s = le (seg.take k))) (fun _ i => seg.length - (intOf i).toNat)
  case atStart => exact ⟨0, 0, Nat.zero_le _, rfl, rfl, rfl⟩
  case round =>
    obtain ⟨k, s, hk, rfl, rfl, HS⟩ := hrel
    by_cases hlt : k < seg.length
    · obtain ⟨b2, o2, rfl, hc2⟩ : ∃ b o, a1 = some ⟨b, o, none⟩ ∧ ∀ i x, seg[i]? = some x → w1.cell? ⟨b, o + i, none⟩ = some (.int .u8 (x.toNat : Int)) := by
        rcases HAT.out with h | h
        · simp [h] at hlt
        · exact h
      obtain ⟨x, hx⟩ : ∃ x, seg[k]? = some x := ⟨seg[k], by simp [hlt]⟩
      have hcx := hc2 k x hx
      have hsk : s < 256 ^ k := by
        have h1 := le_lt (seg.take k)
        rw [List.length_take, Nat.min_eq_left hk] at h1
        rw [HS.out]; exact h1
      have hstep : le (seg.take (k + 1)) = s + x.toNat * 256 ^ k := by rw [take_snoc' hx, le_snoc, HS.out, List.length_take, Nat.min_eq_left hk]
      have HST := Lib.hid hstep
      clear hc2 hstep
      have hxb : x.toNat < 256 := x.toNat_lt
      obtain ⟨xn, hxn⟩ : ∃ xn, xn = x.toNat := ⟨_, rfl⟩
      rw [← hxn] at HST hcx hxb
      clear hxn hx
      have HSK := Lib.hid hsk
      clear hsk
      go_wp2
      go_round
      case rel => exact ⟨k + 1, s + xn * 256 ^ k, by omega, by go_num, by rw [or64_little s xn k HSK.out (by omega) hxb], HST.out.symm⟩
      case measure => simp [intOf]; omega
    · obtain rfl : k = seg.length := by omega
      rw [List.take_length] at HS
      go_wp2
      go_ret2
      exact ⟨ret2_u64 (by rw [HS.out]), HBE.out⟩
/-- Get, of either end, where the bytes are there -/
theorem get_yes (w : World) (v : Value) (bs : List UInt8) (lit : Bool) (n m : Nat) (hb : Bs w v bs) (h : n + m ≤ bs.length) (hm : m ≤ 8) :
    Calls Try.prog 26 #[.agg #[v, .bool lit], .int .i64 n, .int .i64 m] w (GetYes w (num lit ((bs.drop n).take m))) := by
  cases lit
  · exact get_big w v bs n m hb h hm
  · exact get_little w v bs n m hb h hm

set_option maxHeartbeats 400000 in
/-- Get, where there is no such number -/
theorem get_no (w : World) (v : Value) (bs : List UInt8) (lit : Bool) (n m : Int) (hb : Bs w v bs) (h : ¬ (0 ≤ n ∧ 0 ≤ m ∧ m ≤ 8 ∧ n + m ≤ bs.length)) :
    Calls Try.prog 26 #[.agg #[v, .bool lit], .int .i64 n, .int .i64 m] w (GetNo w) := by
  by_cases h1 : 0 ≤ n ∧ 0 ≤ m ∧ n + m ≤ bs.length
  · obtain ⟨n, rfl⟩ := Int.eq_ofNat_of_zero_le h1.1
    obtain ⟨m, rfl⟩ := Int.eq_ofNat_of_zero_le h1.2.1
    have h2 : n + m ≤ bs.length := by omega
    have h3 : 8 < m := by omega
    clear h h1
    have HB := Lib.hid hb
    clear hb
    have hlen : ((bs.drop n).take m).length = m := by simp; omega
    have HL := Lib.hid hlen
    clear hlen
    go_enter Try.func26, Try.ntmps26
    go_wp2_with (go_at_call 28; refine (cut_yes _ v bs lit n m (HB.out.alloc _) h2).mono ?_; rintro e w1 ⟨v1, rfl, hv1, hb1⟩; have HBE := Lib.hid (below_past hb1); obtain ⟨a1, rfl, hl1, hl2, hat⟩ := hv1; clear hat hb1 hl1 hl2)
    go_ret2
    exact ⟨rfl, HBE.out⟩
  · have HB := Lib.hid hb
    have HH := Lib.hid h1
    clear hb h h1
    go_enter Try.func26, Try.ntmps26
    go_wp2_with (go_at_call 28; refine (cut_no _ v bs lit n m (HB.out.alloc _) HH.out).mono ?_; rintro e w1 ⟨rfl, hb1⟩; have HBE := Lib.hid (below_past hb1); clear hb1)
    go_ret2
    exact ⟨rfl, HBE.out⟩
end Go.Proofs.Ytnckmaieghlpmaa
namespace Go.Proofs.Ytnckmaieghlpmaa
open Go.RowKit
set_option linter.unusedVariables false

def RGetYes (w : World) (k : Nat) (e : Ending) (w' : World) : Prop := e = .returned (.tuple #[.int .u64 k, .bool true]) ∧ w = w'
def RGetNo (w : World) (e : Ending) (w' : World) : Prop := e = .returned (.tuple #[.int .u64 0, .bool false]) ∧ w = w'

theorem rget_step (s x wo k : Nat) (hs : s < 256 ^ k) (hk : k < 8) (hx : x < 256) (hw : wo = 256 ^ k) :
    IntKind.u64.wrap ((s : Int) + IntKind.u64.wrap ((x : Int) * (wo : Int))) = ((s + x * 256 ^ k : Nat) : Int) := by
  subst hw
  have h1 : 256 ^ (k + 1) ≤ 256 ^ 8 := Nat.pow_le_pow_right (by decide) (by omega)
  have h2 : x * 256 ^ k + 256 ^ k ≤ 256 ^ (k + 1) := by
    rw [Nat.pow_succ, ← Nat.succ_mul, Nat.mul_comm]; exact Nat.mul_le_mul_left _ hx
  have h3 : ((x : Int) * ((256 ^ k : Nat) : Int)) = ((x * 256 ^ k : Nat) : Int) := by simp
  rw [h3, Go.wraps_u64 ((x * 256 ^ k : Nat) : Int) (by omega) (by omega)]
  rw [show ((s : Int) + ((x * 256 ^ k : Nat) : Int)) = ((s + x * 256 ^ k : Nat) : Int) by omega]
  exact Go.wraps_u64 _ (by omega) (by omega)

theorem worth_step (wo k : Nat) (hk : k < 8) (hw : wo = 256 ^ k) : ∃ wo' : Nat, IntKind.u64.wrap (256 * (wo : Int)) = (wo' : Int) ∧ (k + 1 < 8 → wo' = 256 ^ (k + 1)) := by
  refine ⟨(256 * wo) % 18446744073709551616, by rw [IntKind.wrap_u64]; omega, fun h => ?_⟩
  subst hw
  have h1 : 256 ^ (k + 1) ≤ 256 ^ 7 := Nat.pow_le_pow_right (by decide) (by omega)
  rw [Nat.pow_succ] at h1 ⊢
  rw [Nat.mod_eq_of_lt (by omega), Nat.mul_comm]

theorem drop_last {l : List UInt8} {m k : Nat} {x : UInt8} (hm : l.length = m) (hk : k < m) (hx : l[m - 1 - k]? = some x) : l.drop (m - (k + 1)) = x :: l.drop (m - k) := by
  have h1 : m - (k + 1) < l.length := by omega
  rw [List.drop_eq_getElem_cons h1]
  have h2 : m - (k + 1) + 1 = m - k := by omega
  rw [h2]
  have h3 : m - 1 - k = m - (k + 1) := by omega
  rw [h3, List.getElem?_eq_getElem h1] at hx
  simp only [Option.some.injEq] at hx
  rw [hx]

set_option maxHeartbeats 800000 in
theorem rget_big (w : World) (v : Value) (bs : List UInt8) (n m : Nat) (hb : Bs w v bs) (h : n + m ≤ bs.length) (hm : m ≤ 8) :
    Calls Try.prog 27 #[v, .bool false, .int .i64 n, .int .i64 m] w (RGetYes w (be ((bs.drop n).take m))) := by
  have hlen : ((bs.drop n).take m).length = m := by simp; omega
  obtain ⟨a, c, rfl, hl1, hl2, hat⟩ := hb
  have HAT := Lib.hid hat
  clear hat
  unfold maxLen at hl2
  obtain ⟨seg, hseg⟩ : ∃ seg, seg = (bs.drop n).take m := ⟨_, rfl⟩
  rw [← hseg] at hlen ⊢
  have HSEG := Lib.hid hseg
  have HLEN := Lib.hid hlen
  clear hseg hlen
  have hbd : be seg < 18446744073709551616 := by
    have h1 := be_lt seg
    have h2 : 256 ^ seg.length ≤ 256 ^ 8 := pow256_le (by rw [HLEN.out]; exact hm)
    omega
  have hsub : (m : Int) ≤ (bs.length : Int) - (n : Int) := by omega
  go_enter Try.func27, Try.ntmps27
  go_wp2
  go_loop [10, 11, 12] (fun q wo i => ∃ k s t : Nat, k ≤ m ∧ i = .int .i64 k ∧ q = .int .u64 s ∧ wo = .int .u64 t ∧ Hid (s = be (seg.drop (m - k)) ∧ (k < 8 → t = 256 ^ k))) (fun _ _ i => m - (intOf i).toNat)
  case atStart => exact ⟨0, 0, 1, Nat.zero_le _, rfl, rfl, rfl, by rw [Nat.sub_zero, List.drop_eq_nil_of_le (by rw [HLEN.out]; exact Nat.le_refl _)]; rfl, fun _ => rfl⟩
  case round =>
    obtain ⟨k, s, t, hk, rfl, rfl, rfl, HS⟩ := hrel
    by_cases hlt : k < m
    · obtain ⟨b2, o2, rfl, hc2⟩ : ∃ b o, a = some ⟨b, o, none⟩ ∧ ∀ i x, bs[i]? = some x → w.cell? ⟨b, o + i, none⟩ = some (.int .u8 (x.toNat : Int)) := by
        rcases HAT.out with h' | h'
        · simp [h'] at h; omega
        · exact h'
      obtain ⟨x, hx⟩ : ∃ x, bs[n + m - 1 - k]? = some x := ⟨bs[n + m - 1 - k]'(by omega), by rw [List.getElem?_eq_getElem]⟩
      have hcx := hc2 _ x hx
      have hxs : seg[m - 1 - k]? = some x := by
        rw [HSEG.out, List.getElem?_take, if_pos (by omega), List.getElem?_drop, show n + (m - 1 - k) = n + m - 1 - k by omega]; exact hx
      have hdl := drop_last HLEN.out hlt hxs
      have hsk : s < 256 ^ k := by
        have h1 := be_lt (seg.drop (m - k))
        rw [List.length_drop, HLEN.out, show m - (m - k) = k by omega] at h1
        rw [HS.out.1]; exact h1
      have hstep : be (seg.drop (m - (k + 1))) = s + x.toNat * 256 ^ k := by
        rw [hdl, be_cons, HS.out.1, List.length_drop, HLEN.out, show m - (m - k) = k by omega]; omega
      have hxb : x.toNat < 256 := x.toNat_lt
      have HST := Lib.hid hstep
      have HSK := Lib.hid hsk
      clear hc2 hstep hsk hxs hdl hx
      obtain ⟨xn, hxn⟩ : ∃ xn, xn = x.toNat := ⟨_, rfl⟩
      rw [← hxn] at HST hcx hxb
      clear hxn
      have hidx : n + m - 1 - k < bs.length := by omega
      go_wp2
      go_round
      case rel =>
        obtain ⟨t', ht', hw'⟩ := worth_step t k (by omega) (HS.out.2 (by omega))
        exact ⟨k + 1, s + xn * 256 ^ k, t', by omega, by go_num, by rw [rget_step s xn t k HSK.out (by omega) hxb (HS.out.2 (by omega))], by rw [ht'], HST.out.symm, hw'⟩
      case measure => simp [intOf]; omega
    · obtain rfl : k = m := by omega
      go_wp2
      go_ret2
      exact ⟨ret2_u64 (by rw [HS.out.1]; simp), rfl⟩
set_option maxHeartbeats 800000 in
theorem rget_little (w : World) (v : Value) (bs : List UInt8) (n m : Nat) (hb : Bs w v bs) (h : n + m ≤ bs.length) (hm : m ≤ 8) :
    Calls Try.prog 27 #[v, .bool true, .int .i64 n, .int .i64 m] w (RGetYes w (le ((bs.drop n).take m))) := by
  have hlen : ((bs.drop n).take m).length = m := by simp; omega
  obtain ⟨a, c, rfl, hl1, hl2, hat⟩ := hb
  have HAT := Lib.hid hat
  clear hat
  unfold maxLen at hl2
  obtain ⟨seg, hseg⟩ : ∃ seg, seg = (bs.drop n).take m := ⟨_, rfl⟩
  rw [← hseg] at hlen ⊢
  have HSEG := Lib.hid hseg
  have HLEN := Lib.hid hlen
  clear hseg hlen
  have hbd : le seg < 18446744073709551616 := by
    have h1 := le_lt seg
    have h2 : 256 ^ seg.length ≤ 256 ^ 8 := pow256_le (by rw [HLEN.out]; exact hm)
    omega
  have hsub : (m : Int) ≤ (bs.length : Int) - (n : Int) := by omega
  go_enter Try.func27, Try.ntmps27
  go_wp2
  go_loop [10, 11, 12] (fun q wo i => ∃ k s t : Nat, k ≤ m ∧ i = .int .i64 k ∧ q = .int .u64 s ∧ wo = .int .u64 t ∧ Hid (s = le (seg.take k) ∧ (k < 8 → t = 256 ^ k))) (fun _ _ i => m - (intOf i).toNat)
  case atStart => exact ⟨0, 0, 1, Nat.zero_le _, rfl, rfl, rfl, rfl, fun _ => rfl⟩
  case round =>
    obtain ⟨k, s, t, hk, rfl, rfl, rfl, HS⟩ := hrel
    by_cases hlt : k < m
    · obtain ⟨b2, o2, rfl, hc2⟩ : ∃ b o, a = some ⟨b, o, none⟩ ∧ ∀ i x, bs[i]? = some x → w.cell? ⟨b, o + i, none⟩ = some (.int .u8 (x.toNat : Int)) := by
        rcases HAT.out with h' | h'
        · simp [h'] at h; omega
        · exact h'
      obtain ⟨x, hx⟩ : ∃ x, bs[n + k]? = some x := ⟨bs[n + k]'(by omega), by rw [List.getElem?_eq_getElem]⟩
      have hcx := hc2 _ x hx
      have hxs : seg[k]? = some x := by
        rw [HSEG.out, List.getElem?_take, if_pos (by omega), List.getElem?_drop]; exact hx
      have hdl := take_snoc' hxs
      have hkl : (seg.take k).length = k := by rw [List.length_take, HLEN.out]; omega
      have hsk : s < 256 ^ k := by
        have h1 := le_lt (seg.take k)
        rw [hkl] at h1
        rw [HS.out.1]; exact h1
      have hstep : le (seg.take (k + 1)) = s + x.toNat * 256 ^ k := by
        rw [hdl, le_snoc, HS.out.1, hkl]
      clear hkl
      have hxb : x.toNat < 256 := x.toNat_lt
      have HST := Lib.hid hstep
      have HSK := Lib.hid hsk
      clear hc2 hstep hsk hxs hdl hx
      obtain ⟨xn, hxn⟩ : ∃ xn, xn = x.toNat := ⟨_, rfl⟩
      rw [← hxn] at HST hcx hxb
      clear hxn
      have hidx : n + k < bs.length := by omega
      go_wp2
      go_round
      case rel =>
        obtain ⟨t', ht', hw'⟩ := worth_step t k (by omega) (HS.out.2 (by omega))
        exact ⟨k + 1, s + xn * 256 ^ k, t', by omega, by go_num, by rw [rget_step s xn t k HSK.out (by omega) hxb (HS.out.2 (by omega))], by rw [ht'], HST.out.symm, hw'⟩
      case measure => simp [intOf]; omega
    · obtain rfl : k = m := by omega
      go_wp2
      go_ret2
      exact ⟨ret2_u64 (by rw [HS.out.1, List.take_of_length_le (by rw [HLEN.out]; exact Nat.le_refl _)]), rfl⟩

theorem rget_yes (w : World) (v : Value) (bs : List UInt8) (lit : Bool) (n m : Nat) (hb : Bs w v bs) (h : n + m ≤ bs.length) (hm : m ≤ 8) :
    Calls Try.prog 27 #[v, .bool lit, .int .i64 n, .int .i64 m] w (RGetYes w (num lit ((bs.drop n).take m))) := by
  cases lit
  · exact rget_big w v bs n m hb h hm
  · exact rget_little w v bs n m hb h hm

set_option maxHeartbeats 400000 in
theorem rget_no (w : World) (v : Value) (bs : List UInt8) (lit : Bool) (n m : Int) (hb : Bs w v bs) (h : ¬ (0 ≤ n ∧ 0 ≤ m ∧ m ≤ 8 ∧ n + m ≤ bs.length)) :
    Calls Try.prog 27 #[v, .bool lit, .int .i64 n, .int .i64 m] w (RGetNo w) := by
  obtain ⟨a, c, rfl, hl1, hl2, hat⟩ := hb
  clear hat
  unfold maxLen at hl2
  by_cases h1 : m < 0
  · go_enter Try.func27, Try.ntmps27
    go_wp2
    go_ret2
    exact ⟨rfl, rfl⟩
  · by_cases h2 : 8 < m
    · go_enter Try.func27, Try.ntmps27
      go_wp2
      go_ret2
      exact ⟨rfl, rfl⟩
    · by_cases h3 : n < 0
      · go_enter Try.func27, Try.ntmps27
        go_wp2
        go_ret2
        exact ⟨rfl, rfl⟩
      · by_cases h4 : (bs.length : Int) < n
        · go_enter Try.func27, Try.ntmps27
          go_wp2
          go_ret2
          exact ⟨rfl, rfl⟩
        · have h5 : (bs.length : Int) - n < m := by omega
          go_enter Try.func27, Try.ntmps27
          go_wp2
          go_ret2
          exact ⟨rfl, rfl⟩
end Go.Proofs.Ytnckmaieghlpmaa
namespace Go.Proofs.Ytnckmaieghlpmaa
open Go.RowKit
set_option linter.unusedVariables false

def getOk (bs : List UInt8) (n m : Int) : Bool := decide (0 ≤ n ∧ 0 ≤ m ∧ m ≤ 8 ∧ n + m ≤ bs.length)
def getN (lit : Bool) (bs : List UInt8) (n m : Int) : Nat := if getOk bs n m = true then num lit ((bs.drop n.toNat).take m.toNat) else 0

def GetAny (w : World) (k : Nat) (ok : Bool) (e : Ending) (w' : World) : Prop := e = .returned (.tuple #[.int .u64 k, .bool ok]) ∧ Below w.heap.size w w'
def RGetAny (w : World) (k : Nat) (ok : Bool) (e : Ending) (w' : World) : Prop := e = .returned (.tuple #[.int .u64 k, .bool ok]) ∧ w = w'

theorem get_any (w : World) (v : Value) (bs : List UInt8) (lit : Bool) (n m : Int) (hb : Bs w v bs) :
    Calls Try.prog 26 #[.agg #[v, .bool lit], .int .i64 n, .int .i64 m] w (GetAny w (getN lit bs n m) (getOk bs n m)) := by
  by_cases h : 0 ≤ n ∧ 0 ≤ m ∧ m ≤ 8 ∧ n + m ≤ bs.length
  · have hok : getOk bs n m = true := by simp [getOk, h]
    unfold getN; rw [hok, if_pos rfl]
    obtain ⟨n, rfl⟩ := Int.eq_ofNat_of_zero_le h.1
    obtain ⟨m, rfl⟩ := Int.eq_ofNat_of_zero_le h.2.1
    exact get_yes w v bs lit n m hb (by omega) (by omega)
  · have hok : getOk bs n m = false := by simp only [getOk, decide_eq_false_iff_not]; exact h
    unfold getN; rw [hok, if_neg (by simp)]
    exact get_no w v bs lit n m hb h

theorem rget_any (w : World) (v : Value) (bs : List UInt8) (lit : Bool) (n m : Int) (hb : Bs w v bs) :
    Calls Try.prog 27 #[v, .bool lit, .int .i64 n, .int .i64 m] w (RGetAny w (getN lit bs n m) (getOk bs n m)) := by
  by_cases h : 0 ≤ n ∧ 0 ≤ m ∧ m ≤ 8 ∧ n + m ≤ bs.length
  · have hok : getOk bs n m = true := by simp [getOk, h]
    unfold getN; rw [hok, if_pos rfl]
    obtain ⟨n, rfl⟩ := Int.eq_ofNat_of_zero_le h.1
    obtain ⟨m, rfl⟩ := Int.eq_ofNat_of_zero_le h.2.1
    exact rget_yes w v bs lit n m hb (by omega) (by omega)
  · have hok : getOk bs n m = false := by simp only [getOk, decide_eq_false_iff_not]; exact h
    unfold getN; rw [hok, if_neg (by simp)]
    exact rget_no w v bs lit n m hb h

theorem getN_lt (lit : Bool) (bs : List UInt8) (n : Int) (m : Nat) : getN lit bs n m < 256 ^ m := by
  unfold getN
  split
  · have h1 := num_lt lit ((bs.drop n.toNat).take (m : Int).toNat)
    have h2 : 256 ^ ((bs.drop n.toNat).take (m : Int).toNat).length ≤ 256 ^ m := pow256_le (by simp; omega)
    omega
  · exact Nat.pow_pos (by decide)

def UAny (k : IntKind) (w : World) (n : Nat) (e : Ending) (w' : World) : Prop := e = .returned (.int k n) ∧ Below w.heap.size w w'

set_option maxHeartbeats 400000 in
theorem u16_any (w : World) (v : Value) (bs : List UInt8) (lit : Bool) (n : Int) (hb : Bs w v bs) :
    Calls Try.prog 29 #[.agg #[v, .bool lit], .int .i64 n] w (UAny .u16 w (getN lit bs n 2)) := by
  have hlt : getN lit bs n 2 < 65536 := getN_lt lit bs n 2
  have hw : IntKind.u16.wrap ((getN lit bs n 2 : Nat) : Int) = ((getN lit bs n 2 : Nat) : Int) := by
    rw [IntKind.wrap_u16]; omega
  obtain ⟨N, hN⟩ : ∃ N, N = getN lit bs n 2 := ⟨_, rfl⟩
  rw [← hN] at hlt hw ⊢
  have HN := Lib.hid hN
  have HB := Lib.hid hb
  have HW := Lib.hid hw
  clear hb hN hw
  go_enter Try.func29, Try.ntmps29
  go_wp2_with (go_at_call 26; refine (get_any _ v bs lit n 2 (HB.out.alloc _)).mono ?_; rintro e w1 ⟨rfl, hb1⟩; rw [← HN.out]; have HBE := Lib.hid (below_past hb1); clear hb1)
  go_ret
  exact ⟨rfl, HBE.out⟩

set_option maxHeartbeats 400000 in
theorem u32_any (w : World) (v : Value) (bs : List UInt8) (lit : Bool) (n : Int) (hb : Bs w v bs) :
    Calls Try.prog 30 #[.agg #[v, .bool lit], .int .i64 n] w (UAny .u32 w (getN lit bs n 4)) := by
  have hlt : getN lit bs n 4 < 4294967296 := getN_lt lit bs n 4
  obtain ⟨N, hN⟩ : ∃ N, N = getN lit bs n 4 := ⟨_, rfl⟩
  rw [← hN] at hlt ⊢
  have HN := Lib.hid hN
  have HB := Lib.hid hb
  clear hb hN
  go_enter Try.func30, Try.ntmps30
  go_wp2_with (go_at_call 26; refine (get_any _ v bs lit n 4 (HB.out.alloc _)).mono ?_; rintro e w1 ⟨rfl, hb1⟩; rw [← HN.out]; have HBE := Lib.hid (below_past hb1); clear hb1)
  go_ret
  exact ⟨rfl, HBE.out⟩

set_option maxHeartbeats 400000 in
theorem u64_any (w : World) (v : Value) (bs : List UInt8) (lit : Bool) (n : Int) (hb : Bs w v bs) :
    Calls Try.prog 31 #[.agg #[v, .bool lit], .int .i64 n] w (UAny .u64 w (getN lit bs n 8)) := by
  obtain ⟨N, hN⟩ : ∃ N, N = getN lit bs n 8 := ⟨_, rfl⟩
  rw [← hN]
  have HN := Lib.hid hN
  have HB := Lib.hid hb
  clear hb hN
  go_enter Try.func31, Try.ntmps31
  go_wp2_with (go_at_call 26; refine (get_any _ v bs lit n 8 (HB.out.alloc _)).mono ?_; rintro e w1 ⟨rfl, hb1⟩; rw [← HN.out]; have HBE := Lib.hid (below_past hb1); clear hb1)
  go_ret
  exact ⟨rfl, HBE.out⟩

/-- how many bytes are to be added -/
def pad (n : Int) : Nat := if n < 0 then 0 else ((4 - n % 4) % 4).toNat

set_option maxHeartbeats 400000 in
theorem pad_any (w : World) (n : Int) (h : -9223372036854775808 ≤ n ∧ n ≤ 9223372036854775807) :
    Calls Try.prog 32 #[.int .i64 n] w fun e w' => e = .returned (.int .i64 (pad n)) ∧ w = w' := by
  by_cases h0 : n < 0
  · have hp : pad n = 0 := by simp [pad, h0]
    rw [hp]
    go_enter Try.func32, Try.ntmps32
    go_wp2
    go_ret
    exact ⟨rfl, rfl⟩
  · have h1 : n % 4 = 0 ∨ n % 4 = 1 ∨ n % 4 = 2 ∨ n % 4 = 3 := by omega
    rcases h1 with h1 | h1 | h1 | h1
    · have hp : pad n = 0 := by simp [pad, h0, h1]
      rw [hp]; clear hp
      go_enter Try.func32, Try.ntmps32
      go_wp2
      go_ret
      exact ⟨rfl, rfl⟩
    · have hp : pad n = 3 := by simp [pad, h0, h1]
      rw [hp]; clear hp
      go_enter Try.func32, Try.ntmps32
      go_wp2
      go_ret
      exact ⟨rfl, rfl⟩
    · have hp : pad n = 2 := by simp [pad, h0, h1]
      rw [hp]; clear hp
      go_enter Try.func32, Try.ntmps32
      go_wp2
      go_ret
      exact ⟨rfl, rfl⟩
    · have hp : pad n = 1 := by simp [pad, h0, h1]
      rw [hp]; clear hp
      go_enter Try.func32, Try.ntmps32
      go_wp2
      go_ret
      exact ⟨rfl, rfl⟩
end Go.Proofs.Ytnckmaieghlpmaa
namespace Go.Proofs.Ytnckmaieghlpmaa
open Go.RowKit
set_option linter.unusedVariables false

theorem Try.info5 : (Try.prog.info? 5).map (fun i => (i.zero, i.size, i.bytes)) = some (some (.int .u8 0), 1, 1) := by kernel_rfl

def byteV (x : UInt8) : Value := .int .u8 (x.toNat : Int)

/-- the slice is the call's own (its block has a number from base on), and holds these bytes -/
def Own (w : World) (base : Nat) (v : Value) (bs : List UInt8) : Prop := w.ownsRow base 5 1 v bs.length (bs.map byteV)

theorem own_nil (w : World) (base : Nat) : Own w base (.slice none 0 0) [] := World.ownsRow_nil _ _ _ _

theorem Own.bs {w : World} {base : Nat} {v : Value} {bs : List UInt8} (h : Own w base v bs) : Bs w v bs := by
  rcases h.2 with ⟨rfl, hn⟩ | ⟨g, cap, cur, rfl, hbg, hg, hnc, hcm, hcs, htake⟩
  · have : bs = [] := List.eq_nil_of_length_eq_zero hn
    subst this
    exact ⟨none, 0, rfl, Nat.le_refl _, Nat.zero_le _, .inl rfl⟩
  · refine ⟨some ⟨g, 0, none⟩, cap, rfl, hnc, hcm, .inr ⟨g, 0, rfl, fun i x hx => ?_⟩⟩
    rw [Nat.zero_add, cell_of_row w g i cur 5 (0, 0) hg]
    have h1 : (cur.toList.take (bs.length * 1))[i]? = some (byteV x) := by rw [htake, List.getElem?_map, hx]; rfl
    rw [List.getElem?_take] at h1
    split at h1
    · simpa [byteV] using h1
    · cases h1
theorem Own.shape {w : World} {base : Nat} {v : Value} {bs : List UInt8} (h : Own w base v bs) :
    (v = .slice none 0 0 ∧ bs = []) ∨ ∃ g cap, v = .slice (some ⟨g, 0, none⟩) bs.length cap ∧ base ≤ g ∧ g < w.heap.size ∧ bs.length ≤ cap ∧ cap ≤ maxLen := by
  rcases h.2 with ⟨rfl, hn⟩ | ⟨g, cap, cur, rfl, hbg, hg, hnc, hcm, hcs, htake⟩
  · exact .inl ⟨rfl, List.eq_nil_of_length_eq_zero hn⟩
  · exact .inr ⟨g, cap, rfl, hbg, (Array.getElem?_eq_some_iff.1 hg).1, hnc, hcm⟩
theorem Own.alloc {w : World} {base : Nat} {v : Value} {bs : List UInt8} (h : Own w base v bs) (o : Obj) : Own (w.alloc o) base v bs := World.ownsRow.alloc h o
theorem Own.drew {w : World} {base : Nat} {v : Value} {bs : List UInt8} (h : Own w base v bs) : Own w.drew base v bs := h
theorem Own.mono {w : World} {base base' : Nat} {v : Value} {bs : List UInt8} (h : Own w base v bs) (hb : base' ≤ base) : Own w base' v bs := by
  refine ⟨h.1, ?_⟩
  rcases h.2 with h2 | ⟨g, cap, cur, e, hbg, r⟩
  · exact .inl h2
  · exact .inr ⟨g, cap, cur, e, Nat.le_trans hb hbg, r⟩
theorem Own.keep {w w' : World} {base B : Nat} {v : Value} {bs : List UInt8} (h : Own w base v bs) (hb : Below B w w') (hB : w.heap.size ≤ B) : Own w' base v bs := by
  refine ⟨h.1, ?_⟩
  rcases h.2 with h2 | ⟨g, cap, cur, e, hbg, hg, r⟩
  · exact .inl h2
  · refine .inr ⟨g, cap, cur, e, hbg, ?_, r⟩
    have := (Array.getElem?_eq_some_iff.1 hg).1
    rw [hb.block g (by omega)]; exact hg
theorem Own.below {w w' : World} {base : Nat} {v : Value} {bs : List UInt8} (h : Own w base v bs) (hb : Below w.heap.size w w') : Own w' base v bs := h.keep hb (Nat.le_refl _)
theorem own_lit (w : World) (bs : List UInt8) (cs : Array Value) (base : Nat) (hcs : cs.toList = bs.map byteV) (hb : base ≤ w.heap.size) (hl : bs.length ≤ maxLen) :
    Own (w.alloc (.cells cs 5)) base (.slice (some ⟨w.heap.size, 0, none⟩) bs.length bs.length) bs := by
  have h := World.ownsRow_lit (e := 5) (size := 1) (base := base) w cs bs.length hb hl (by rw [← Array.length_toList, hcs]; simp)
  unfold Own; rw [← hcs]; exact h

theorem own_block {w : World} {base : Nat} {v : Value} {bs : List UInt8} (h : Own w base v bs) : ∀ k, v.ownBlock = some k → base ≤ k := fun k hk => (World.ownsRow.lt h k hk).1

theorem Own.slice {w : World} {base : Nat} {v : Value} {bs : List UInt8} (h : Own w base v bs) : ∃ a c, v = .slice a bs.length c ∧ bs.length ≤ c ∧ c ≤ 9223372036854775807 := by
  obtain ⟨a, c, e, h1, h2, _⟩ := h.bs
  unfold maxLen at h2
  exact ⟨a, c, e, h1, by omega⟩

/-- append of bytes, from wherever they are: its run -/
theorem run_app {w : World} (ty : TypeId) (base : Nat) (v : Value) (bs : List UInt8) (hown : Own w base v bs)
    (vx : Value) (news : List UInt8) (hB : Bs w vx news) (hlen : bs.length + news.length ≤ 70368744177664) (hbase : base ≤ w.heap.size) :
    ∃ v' w', (Builtin.append_ #[24, 24] ty #[v, vx]).run Try.prog w = .ok v' w' ∧ Own w' base v' (bs ++ news) ∧ Below base w w' ∧ (v' = .slice none 0 0 → bs = [] ∧ news = []) := by
  obtain ⟨i0, hi, hz0, hz1, hz2⟩ := info_parts Try.info5
  have bel : ∀ {w'}, w.grownBy w' v.ownBlock → Below base w w' := fun hg => (Below.refl _ _).grown hg hbase (own_block hown)
  obtain ⟨ax, cx, rfl, l1, l2, hat⟩ := hB
  have nil_of : ∀ {w'}, Own w' base (.slice none 0 0) (bs ++ news) → bs = [] ∧ news = [] := fun {w'} ho => by
    rcases ho.shape with ⟨_, h⟩ | ⟨g, cap, h, _⟩
    · simpa using h
    · cases h
  cases ax with
  | none =>
    have hn : news = [] := by
      rcases hat with h | ⟨b, o, e, _⟩
      · exact h
      · cases e
    subst hn
    have hrun : (Builtin.append_ #[24, 24] ty #[v, .slice none 0 cx]).run Try.prog w = .ok v w := by
      rcases hown.2 with ⟨rfl, hn⟩ | ⟨g, cap, cur, rfl, hbg, hg, hnc, hcm, hcs, htake⟩
      · simp [Builtin.append_, run_underlying Try.underlying24, sizeOf, typeInfo, hi, Builtin.lenOf, Builtin.firstCells]
      · simp [Builtin.append_, run_underlying Try.underlying24, sizeOf, typeInfo, hi, Builtin.lenOf, Builtin.firstCells, hnc, storeCells]
    exact ⟨v, w, hrun, by simpa using hown, Below.refl _ _, fun e => by subst e; exact nil_of (by simpa using hown)⟩
  | some ad =>
    obtain ⟨v', w', hr, h1, h2, h3⟩ := run_append_own w base 24 ty 5 i0 (.int .u8 0) 1 1 Try.underlying24 hi hz0 hz1 hz2 rfl (by decide) v _ _ hown ad news.length cx (news.map byteV) (by simp)
      (fun j u hu => by
        rw [List.getElem?_map] at hu
        obtain ⟨y, hy, rfl⟩ := Option.map_eq_some_iff.1 hu
        rcases hat with h | ⟨b, o, e, hc⟩
        · subst h; simp at hy
        · cases e
          have : (⟨b, o, none⟩ : Addr).add j = ⟨b, o + j, none⟩ := by unfold Addr.add; split <;> simp_all
          rw [this]; exact hc j y hy)
      (fun u hu => by obtain ⟨y, _, rfl⟩ := List.mem_map.1 hu; rfl) (by unfold maxLen; omega) (by omega) hbase
    have h1' : Own w' base v' (bs ++ news) := by unfold Own; rw [List.length_append, List.map_append]; exact h1
    exact ⟨v', w', hr, h1', bel h2, fun e => by subst e; exact nil_of h1'⟩

theorem wp_app {w : World} {o : Oper} {a : Act} {K : Act → World → Prop} {Q : Exit → Act → World → Prop} (s x : Operand)
    (ho : o.op = .call { callee := .builtin .append, args := #[s, x], argTypes := #[24, 24] }) (base : Nat) (v : Value) (bs : List UInt8) (hs : a.eval s = v) (hown : Own w base v bs)
    (vx : Value) (news : List UInt8) (hx : a.eval x = vx) (hB : Bs w vx news) (hlen : bs.length + news.length ≤ 70368744177664) (hbase : base ≤ w.heap.size)
    (h : ∀ a' c' w', Own w' base (.slice a' (bs.length + news.length) c') (bs ++ news) → Below base w w' → bs.length + news.length ≤ c' ∧ c' ≤ 9223372036854775807 →
      K (a.put o.dst (.slice a' (bs.length + news.length) c')) w') : o.wp Try.prog a w K Q := by
  obtain ⟨v', w', hr, h2, h3, h4⟩ := run_app o.type base v bs hown vx news hB hlen hbase
  unfold Oper.wp execOp
  simp only [ho, resolve, invoke, builtin, Sem.run_bind, Sem.run_pure, Result.andThen_ok, List.map_toArray, List.map_cons, List.map_nil, hs, hx, hr]
  obtain ⟨a', c', rfl, h5, h6⟩ := h2.slice
  rw [List.length_append] at h2 h5 ⊢
  exact h a' c' w' h2 h3 ⟨h5, h6⟩

theorem wpList_app {w : World} {ops : Array Oper} {rest : List Oper} {o : Oper} {a : Act} {Q : Exit → Act → World → Prop} (hgd : o.guard = none) (s x : Operand)
    (ho : o.op = .call { callee := .builtin .append, args := #[s, x], argTypes := #[24, 24] }) (base : Nat) (v : Value) (bs : List UInt8) (hs : a.eval s = v) (hown : Own w base v bs)
    (vx : Value) (news : List UInt8) (hx : a.eval x = vx) (hB : Bs w vx news) (hlen : bs.length + news.length ≤ 70368744177664) (hbase : base ≤ w.heap.size)
    (h : ∀ a' c' w', Own w' base (.slice a' (bs.length + news.length) c') (bs ++ news) → Below base w w' → bs.length + news.length ≤ c' ∧ c' ≤ 9223372036854775807 →
      wpList Try.prog ops Q rest (a.put o.dst (.slice a' (bs.length + news.length) c')) w') :
    wpList Try.prog ops Q (o :: rest) a w :=
  wpList_plain hgd fun _ hK => wp_app s x ho base v bs hs hown vx news hx hB hlen hbase fun a' c' w' h2 h3 h4 => hK _ _ (h a' c' w' h2 h3 h4)

/-- .. as one step of a region that draws its order -/
theorem step_app {w : World} {ops : Array Oper} {o : Oper} {a : Act} {K : Act → World → Prop} {Q : Exit → Act → World → Prop} {E : Prop} (hgd : o.guard = none) (s x : Operand)
    (ho : o.op = .call { callee := .builtin .append, args := #[s, x], argTypes := #[24, 24] }) (base : Nat) (v : Value) (bs : List UInt8) (hs : a.eval s = v) (hown : Own w base v bs)
    (vx : Value) (news : List UInt8) (hx : a.eval x = vx) (hB : Bs w vx news) (hlen : bs.length + news.length ≤ 70368744177664) (hbase : base ≤ w.heap.size)
    (h : ∀ a' c' w', Own w' base (.slice a' (bs.length + news.length) c') (bs ++ news) → Below base w w' → bs.length + news.length ≤ c' ∧ c' ≤ 9223372036854775807 →
      K (a.put o.dst (.slice a' (bs.length + news.length) c')) w') :
    if Region.wanted o (yielded ops a.tmps) = true then Oper.wp Try.prog o a w K Q else E := by
  have hw : Region.wanted o (yielded ops a.tmps) = true := by simp [Region.wanted, hgd]
  rw [if_pos hw]
  exact wp_app s x ho base v bs hs hown vx news hx hB hlen hbase h

/-- a byte of the call's own is written -/
theorem own_store {w : World} {base g cap : Nat} {bs : List UInt8} (h : Own w base (.slice (some ⟨g, 0, none⟩) bs.length cap) bs) (j : Nat) (x : UInt8) :
    Own (w.setCell ⟨g, j, none⟩ (byteV x)) base (.slice (some ⟨g, 0, none⟩) bs.length cap) (bs.set j x) := by
  have := (World.ownsRow.stored h j (byteV x)).1
  unfold Own
  rw [List.length_set, List.map_set]
  exact this
theorem own_cell {w : World} {base g cap : Nat} {bs : List UInt8} (h : Own w base (.slice (some ⟨g, 0, none⟩) bs.length cap) bs) {j : Nat} {x : UInt8} (hj : bs[j]? = some x) :
    w.cell? ⟨g, j, none⟩ = some (.int .u8 (x.toNat : Int)) := by
  have := World.ownsRow.cellAt h j (by have := (List.getElem?_eq_some_iff.1 hj).1; omega)
  rw [this, List.getElem?_map, hj]; rfl
theorem own_free {w : World} {base g cap : Nat} {bs : List UInt8} (h : Own w base (.slice (some ⟨g, 0, none⟩) bs.length cap) bs) (j : Nat) : w.frozen? ⟨g, j, none⟩ = false :=
  World.ownsRow.frozenAt h j
end Go.Proofs.Ytnckmaieghlpmaa
namespace Go.Proofs.Ytnckmaieghlpmaa
open Go.RowKit
set_option linter.unusedVariables false

/-- the cells of an address -/
def adrC (six : Bool) (A : List UInt8) : Array Value := (Value.bool six :: A.map byteV).toArray
theorem adr_size (six : Bool) (A : List UInt8) : (adrC six A).size = A.length + 1 := by simp [adrC]
theorem adr_list (six : Bool) (A : List UInt8) : (adrC six A).toList = Value.bool six :: A.map byteV := rfl
theorem adr_zero (six : Bool) (A : List UInt8) : (adrC six A)[0]? = some (.bool six) := by simp [adrC]

set_option maxHeartbeats 400000 in
theorem mixed_any (w : World) (s t : Bool) (A B : List UInt8) :
    Calls Try.prog 58 #[(.agg (adrC s A)), (.agg (adrC t B))] w fun e w' => e = .returned (.bool (s != t)) ∧ Below w.heap.size w w' := by
  have h1 := adr_zero s A
  have h2 := adr_zero t B
  cases s
  all_goals
    cases t
    all_goals
      go_enter Try.func58, Try.ntmps58
      go_wp2_with fail
      go_ret
      exact ⟨rfl, ((Below.refl _ _).alloc (Nat.le_refl _) _).alloc (by simp) _⟩
end Go.Proofs.Ytnckmaieghlpmaa
namespace Go.Proofs.Ytnckmaieghlpmaa
open Go.RowKit
set_option linter.unusedVariables false

/-- a block of two cells -/
theorem two_cells {w : World} {g : Nat} {x y : Value} {t : TypeId} (h : w.heap[g]? = some (.cells #[x, y] t (0, 0))) :
    w.cell? ⟨g, 0, none⟩ = some x ∧ w.cell? ⟨g, 1, none⟩ = some y ∧ w.frozen? ⟨g, 0, none⟩ = false ∧ w.frozen? ⟨g, 1, none⟩ = false :=
  ⟨cell_of_row w g 0 _ t _ h, cell_of_row w g 1 _ t _ h, frozen_of_row w g 0 _ t h, frozen_of_row w g 1 _ t h⟩

/-- what Put returns: a row of the call's own -/
def PutYes (w : World) (lit : Bool) (bs : List UInt8) (e : Ending) (w' : World) : Prop :=
  ∃ v, e = .returned (.agg #[v, .bool lit]) ∧ Own w' w.heap.size v bs ∧ Below w.heap.size w w'

theorem bel_past {B : Nat} {wr w3 : World} {o : Obj} (h : Below B (wr.drew.alloc o) w3) (hB : B ≤ wr.heap.size) : Below B wr w3 :=
  (((Below.refl B wr).drew).alloc hB o).trans h

/-- where Put stands in its loop: the row's block, the result's block, the bytes so far -/
def PutSt (w wr : World) (v : Value) (lit : Bool) (xs : List UInt8) : Prop :=
  wr.heap[w.heap.size]? = some (.cells #[v, .bool lit] 30 (0, 0)) ∧ wr.heap[w.heap.size + 1]? = some (.cells #[.slice none 0 0, .bool false] 30 (0, 0)) ∧
  Own wr (w.heap.size + 2) v xs ∧ Below w.heap.size w wr

theorem own_set {w : World} {base : Nat} {v : Value} {bs : List UInt8} (h : Own w base v bs) {a : Addr} (ha : a.block < base) (u : Value) : Own (w.setCell a u) base v bs := ownsRow_setCell_below h ha u

theorem put_start {w w1 : World} {v v0 : Value} {lit : Bool} {xs : List UInt8} (h : Below (w.heap.size + 2) ((w.alloc (.cells #[v0, .bool lit] 30)).alloc (.cells #[.slice none 0 0, .bool false] 30)) w1)
    (ho : Own w1 (w.heap.size + 2) v xs) : PutSt w (w1.setCell ⟨w.heap.size, 0, none⟩ v) v lit xs := by
  have h0 : w1.heap[w.heap.size]? = some (.cells #[v0, .bool lit] 30 (0, 0)) := (h.block _ (by omega)).trans (heap_alloc2_old _ _ _)
  have h1 : w1.heap[w.heap.size + 1]? = some (.cells #[.slice none 0 0, .bool false] 30 (0, 0)) := (h.block _ (by omega)).trans (heap_alloc2_new _ _ _)
  refine ⟨heap_setCell_same w1 _ 0 _ 30 v h0, ?_, own_set ho (by show w.heap.size < _; omega) _, ?_⟩
  · rw [heap_setCell_other _ _ _ _ (by show w.heap.size + 1 ≠ w.heap.size; omega)]; exact h1
  · exact ((((Below.refl _ _).alloc (Nat.le_refl _) _).alloc (by simp) _).trans (h.mono (by omega))).setCell (Nat.le_refl _) _

theorem put_step {w wr w2 : World} {v v2 : Value} {lit : Bool} {xs ys : List UInt8} (h : PutSt w wr v lit xs) (hb : Below (w.heap.size + 2) wr w2)
    (ho : Own w2 (w.heap.size + 2) v2 ys) : PutSt w (w2.setCell ⟨w.heap.size, 0, none⟩ v2) v2 lit ys := by
  obtain ⟨h0, h1, _, h3⟩ := h
  have h0' := (hb.block _ (by omega)).trans h0
  have h1' := (hb.block _ (by omega)).trans h1
  refine ⟨heap_setCell_same w2 _ 0 _ 30 v2 h0', ?_, own_set ho (by show w.heap.size < _; omega) _, ?_⟩
  · rw [heap_setCell_other _ _ _ _ (by show w.heap.size + 1 ≠ w.heap.size; omega)]; exact h1'
  · exact (h3.trans (hb.mono (by omega))).setCell (Nat.le_refl _) _

theorem put_mid {w wr w3 : World} {v : Value} {lit : Bool} {xs : List UInt8} (h : PutSt w wr v lit xs) (hb : Below (w.heap.size + 2) wr w3) :
    w3.cell? ⟨w.heap.size, 0, none⟩ = some v ∧ w3.frozen? ⟨w.heap.size, 0, none⟩ = false := by
  have h0 := (hb.block w.heap.size (by omega)).trans h.1
  exact ⟨(two_cells h0).1, (two_cells h0).2.2.1⟩
theorem put_size {w wr : World} {v : Value} {lit : Bool} {xs : List UInt8} (h : PutSt w wr v lit xs) : w.heap.size + 2 ≤ wr.heap.size := by
  have := lt_of_block h.2.1; omega

set_option maxHeartbeats 1000000 in
theorem put_yes (w : World) (v : Value) (bs : List UInt8) (lit : Bool) (n m : Nat) (hb : Bs w v bs) (hbl : bs.length ≤ 4294967296) (hn : n < 18446744073709551616) (hm : m ≤ 8) :
    Calls Try.prog 33 #[.agg #[v, .bool lit], .int .u64 n, .int .i64 m] w (PutYes w lit (bs ++ numB lit n m)) := by
  have HB := Lib.hid hb
  obtain ⟨a, c, rfl, hl1, hl2, hat⟩ := hb
  clear hat
  unfold maxLen at hl2
  go_enter Try.func33, Try.ntmps33
  go_wp2_with (at_builtin; refine wpList_app rfl _ _ rfl (w.heap.size + 2) _ [] rfl (own_nil _ _) _ bs rfl ((HB.out.alloc _).alloc _) (by simp; omega) (by simp) ?_; intro a1 c1 w1 hown1 hbel1 hc1; simp only [List.length_nil, Nat.zero_add] at hown1 hc1 ⊢; have hR : w1.heap[w.heap.size]? = some (.cells #[Value.slice a bs.length c, Value.bool lit] 30 (0, 0)) := (hbel1.block _ (by omega)).trans (heap_alloc2_old _ _ _); have hX := two_cells hR)
  go_loopw [21] (fun i wr => ∃ (k : Nat) (v : Value), k ≤ m ∧ i = .int .i64 k ∧ Hid (PutSt w wr v lit (bs ++ (numB lit n m).take k))) (fun i _ => m - (intOf i).toNat)
  case atStart => exact ⟨0, _, Nat.zero_le _, rfl, by simpa [Hid] using put_start hbel1 hown1⟩
  case round =>
    obtain ⟨k, v, hk, rfl, HS⟩ := hrel
    clear hR hX hown1 hbel1
    obtain ⟨b0, b1, f0, f1⟩ := two_cells HS.out.1
    obtain ⟨c0, c1, g0, g1⟩ := two_cells HS.out.2.1
    by_cases hlt : k < m
    · obtain ⟨a2, c2, rfl, hv1, hv2⟩ := HS.out.2.2.1.slice
      obtain ⟨xb, hxb⟩ : ∃ xb, (numB lit n m)[k]? = some xb := ⟨_, numB_get lit n m k hlt⟩
      have hbyte := numB_get lit n m k hlt
      rw [hxb] at hbyte
      obtain ⟨xs, hxs⟩ : ∃ xs, xs = bs ++ (numB lit n m).take k := ⟨_, rfl⟩
      have hnext : bs ++ (numB lit n m).take (k + 1) = xs ++ [xb] := by rw [take_snoc' hxb, ← List.append_assoc, hxs]
      have hxl : xs.length ≤ 4294967304 := by rw [hxs]; simp; omega
      rw [← hxs] at HS hv1 b0
      have HB := Lib.hid hbyte
      have HX := Lib.hid hnext
      clear hbyte hnext hxs hxb
      obtain ⟨t, ht⟩ : ∃ t, t = if lit then k else m - 1 - k := ⟨_, rfl⟩
      have ht8 : t < 8 := by rw [ht]; split <;> omega
      have hxq : IntKind.u8.wrap ((n : Int) / 2 ^ (8 * (t : Int)).toNat) = (xb.toNat : Int) := by
        have := HB.out
        rw [← ht] at this
        simp only [Option.some.injEq] at this
        rw [this, IntKind.wrap_u8, show ((8 * (t : Int)).toNat) = 8 * t by omega, show ((2 : Int) ^ (8 * t)) = ((256 ^ t : Nat) : Int) by rw [← pow256]; simp]
        simp
      have hlt0 : w.heap.size < wr.heap.size := by have := put_size HS.out; omega
      have hw8 : IntKind.i64.wrap (8 * (t : Int)) = 8 * (t : Int) := IntWalk.i64_in _ (by omega)
      have hsz : w.heap.size + 2 ≤ (wr.drew.alloc (Obj.cells #[Value.int IntKind.u8 (xb.toNat : Int)] 5)).heap.size := by
        have := lt_of_block HS.out.2.1
        simp; omega
      cases lit
      · have hmk : (m : Int) - 1 - (k : Int) = (t : Int) := by simp at ht; omega
        have HT := Lib.hid ht
        clear ht
        go_wp2
        go_region_law ((refine step_app (by rfl) _ _ (by rfl) (w.heap.size + 2) _ xs (by rfl) (HS.out.2.2.1.drew.alloc _) _ [xb] (by rfl) (bs_new wr.drew [xb] _ 5 _ rfl (by show 1 ≤ maxLen; decide)) (by simp; omega) hsz ?_; intro a3 c3 w3 hown3 hbel3 hc3; obtain ⟨hm1, hm2⟩ := put_mid HS.out (bel_past hbel3 (put_size HS.out))))
        all_goals
          clear hm1 hm2
          go_wp2
          go_roundw
          case rel => exact ⟨k + 1, _, by omega, by go_num, by rw [HX.out]; exact put_step HS.out (bel_past hbel3 (put_size HS.out)) hown3⟩
          case measure => simp [intOf]; omega
      · have hmk : k = t := by symm; simpa using ht
        subst hmk
        clear ht
        go_wp2
        go_region_law ((refine step_app (by rfl) _ _ (by rfl) (w.heap.size + 2) _ xs (by rfl) (HS.out.2.2.1.drew.alloc _) _ [xb] (by rfl) (bs_new wr.drew [xb] _ 5 _ rfl (by show 1 ≤ maxLen; decide)) (by simp; omega) hsz ?_; intro a3 c3 w3 hown3 hbel3 hc3; obtain ⟨hm1, hm2⟩ := put_mid HS.out (bel_past hbel3 (put_size HS.out))))
        all_goals
          clear hm1 hm2
          go_wp2
          go_roundw
          case rel => exact ⟨k + 1, _, by omega, by go_num, by rw [HX.out]; exact put_step HS.out (bel_past hbel3 (put_size HS.out)) hown3⟩
          case measure => simp [intOf]; omega
    · obtain rfl : k = m := by omega
      rw [List.take_of_length_le (by rw [numB_length]; exact Nat.le_refl _)] at HS
      obtain ⟨xs, hxs⟩ : ∃ xs, xs = bs ++ numB lit n k := ⟨_, rfl⟩
      rw [← hxs] at HS
      obtain ⟨a2, c2, rfl, hv1, hv2⟩ := HS.out.2.2.1.slice
      have HXS := Lib.hid hxs
      clear hxs
      go_wp2
      refine bodyPost_ret (v := .agg #[.slice a2 xs.length c2, .bool lit]) (by simp [results, Try.results33, go_sem, c0, c1]) rfl ⟨_, rfl, ?_, ?_⟩
      · rw [← HXS.out]
        exact (own_set (own_set HS.out.2.2.1 (by show w.heap.size + 1 < _; omega) _) (by show w.heap.size + 1 < _; omega) _).mono (by omega)
      · exact (HS.out.2.2.2.setCell (by show w.heap.size ≤ w.heap.size + 1; omega) _).setCell (by show w.heap.size ≤ w.heap.size + 1; omega) _

/-- Put of a number of bytes that may not be: the row itself -/
def PutNo (w : World) (v : Value) (lit : Bool) (e : Ending) (w' : World) : Prop :=
  e = .returned (.agg #[v, .bool lit]) ∧ Below w.heap.size w w'

set_option maxHeartbeats 1000000 in
theorem put_no (w : World) (v : Value) (bs : List UInt8) (lit : Bool) (n : Nat) (m : Int) (hb : Bs w v bs) (hm : m < 0 ∨ 8 < m) :
    Calls Try.prog 33 #[.agg #[v, .bool lit], .int .u64 n, .int .i64 m] w (PutNo w v lit) := by
  obtain ⟨a, c, rfl, hl1, hl2, hat⟩ := hb
  clear hat
  unfold maxLen at hl2
  by_cases h1 : m < 0
  · clear hm
    go_enter Try.func33, Try.ntmps33
    go_wp2
    exact bodyPost_ret (v := .agg #[.slice a bs.length c, .bool lit]) (by simp [results, Try.results33, go_sem]) rfl ⟨rfl, ((Below.refl _ _).alloc (Nat.le_refl _) _).alloc (by simp) _⟩
  · have h2 : 8 < m := by omega
    clear hm
    go_enter Try.func33, Try.ntmps33
    go_wp2
    exact bodyPost_ret (v := .agg #[.slice a bs.length c, .bool lit]) (by simp [results, Try.results33, go_sem]) rfl ⟨rfl, ((Below.refl _ _).alloc (Nat.le_refl _) _).alloc (by simp) _⟩
end Go.Proofs.Ytnckmaieghlpmaa
namespace Go.Proofs.Ytnckmaieghlpmaa
open Go.RowKit
set_option linter.unusedVariables false

/-- what stands ahead of a datagram of n bytes -/
def aheadB (six : Bool) (A B : List UInt8) (n : Nat) : List UInt8 :=
  if six then A ++ B ++ ([0, 0] ++ numB false n 2 ++ [0, 0, 0, 17]) else A.take 4 ++ B.take 4 ++ ([0, 17] ++ numB false n 2)

theorem numB2 (n : Nat) : numB false n 2 = [UInt8.ofNat (n / 256 % 256), UInt8.ofNat (n % 256)] := by
  simp [numB, leB]
theorem splice_map {α β : Type} (f : α → β) (L cs : List α) (off : Nat) : splice (L.map f) off (cs.map f) = (splice L off cs).map f := by
  simp [splice, List.map_take, List.map_drop]

theorem row4 (A B : List UInt8) (n : Nat) (hA : A.length = 16) (hB : B.length = 16) :
    ((((splice (splice (List.replicate 40 (0 : UInt8)) 0 (A.take 4)) 4 (B.take 4)).set 9 17).set 10 (UInt8.ofNat (n / 256 % 256))).set 11 (UInt8.ofNat (n % 256))) = aheadB false A B n ++ List.replicate 28 0 := by
  have h4 : ∀ l : List UInt8, l.length = 16 → ∃ a b c d, l.take 4 = [a, b, c, d] := by
    intro l hl
    match l, hl with
    | a :: b :: c :: d :: r, _ => exact ⟨a, b, c, d, rfl⟩
  obtain ⟨a, b, c, d, e1⟩ := h4 A hA
  obtain ⟨a', b', c', d', e2⟩ := h4 B hB
  simp only [aheadB, Bool.false_eq_true, if_false, e1, e2, numB2]
  rfl
theorem set_app (X Y : List UInt8) (h : X.length = 32) (i : Nat) (v : UInt8) : (X ++ Y).set (32 + i) v = X ++ Y.set i v := by
  rw [List.set_append_right (32 + i) _ (by omega), h, Nat.add_sub_cancel_left]
theorem row6 (A B : List UInt8) (n : Nat) (hA : A.length = 16) (hB : B.length = 16) :
    ((((splice (splice (List.replicate 40 (0 : UInt8)) 0 A) 16 B).set 34 (UInt8.ofNat (n / 256 % 256))).set 35 (UInt8.ofNat (n % 256))).set 39 17) = aheadB true A B n := by
  have e1 : splice (List.replicate 40 (0 : UInt8)) 0 A = A ++ List.replicate 24 0 := by simp [splice, hA]
  have e2 : splice (A ++ List.replicate 24 (0 : UInt8)) 16 B = A ++ (B ++ List.replicate 8 0) := by
    unfold splice
    rw [List.take_append_of_le_length (by omega), List.take_of_length_le (by omega), hB, List.drop_append, hA]
    simp [hA]
  rw [e1, e2]
  simp only [aheadB, if_true, numB2]
  rw [← List.append_assoc, set_app _ _ (by simp [hA, hB]) 2, set_app _ _ (by simp [hA, hB]) 3, set_app _ _ (by simp [hA, hB]) 7]
  rfl

theorem info5s : (Try.prog.info? 5).map (·.size) = some 1 := by kernel_rfl
theorem info143s : (Try.prog.info? 143).map (·.size) = some 40 := by kernel_rfl
theorem info54s : (Try.prog.info? 54).map (·.size) = some 17 := by kernel_rfl

theorem wpList_store_row {P : Program} {ops : Array Oper} {rest : List Oper} {op : Oper} {a : Act} {w : World} {Q : Exit → Act → World → Prop} (hgd : op.guard = none) (ty : TypeId) (x y : Operand) (ho : op.op = .store ty x y)
    (g : Nat) (t : TypeId) (old cells : Array Value) (hx : a.eval x = .pointer (some ⟨g, 0, none⟩)) (hy : a.eval y = .agg cells)
    (hg : w.heap[g]? = some (.cells old t (0, 0))) (hi : (P.info? ty).map (·.size) = some cells.size) (hsz : old.size = cells.size) (h1 : cells.all (·.oneCell') = true)
    (h : wpList P ops Q rest (a.put op.dst undef) (w.setRow g cells)) : wpList P ops Q (op :: rest) a w :=
  wpList_plain hgd fun _ hK => by
    unfold Oper.wp execOp
    simp only [ho, hx, hy, Instr.storeAt, Instr.sureAddr, Sem.run_bind, Sem.run_pure, Result.andThen_ok, run_storeVar_row w g t ty old cells hg hi hsz h1]
    exact hK _ _ h

theorem bytes_oneCell (bs : List UInt8) : ∀ v ∈ bs.map byteV, v.oneCell' = true := fun v hv => by
  obtain ⟨x, _, rfl⟩ := List.mem_map.1 hv; rfl
theorem bytes_oneCellA (bs : List UInt8) : ((bs.map byteV).toArray).all (·.oneCell') = true := all_oneCell_toArray (bytes_oneCell bs)
theorem adr_oneCell (six : Bool) (A : List UInt8) : (adrC six A).all (·.oneCell') = true :=
  all_oneCell_toArray (cs := Value.bool six :: A.map byteV) (fun v hv => by
    rcases List.mem_cons.1 hv with rfl | h
    · rfl
    · exact bytes_oneCell A v h)

/-- the row of bytes that lies in block g -/
def RowAt (w : World) (g : Nat) (t : TypeId) (L : List UInt8) : Prop := w.heap[g]? = some (.cells (L.map byteV).toArray t (0, 0))
theorem RowAt.cell {w : World} {g : Nat} {t : TypeId} {L : List UInt8} (h : RowAt w g t L) (j : Nat) (x : UInt8) (hx : L[j]? = some x) : w.cell? ⟨g, j, none⟩ = some (.int .u8 (x.toNat : Int)) := by
  rw [cell_of_row w g j _ _ _ h]; simp [hx, byteV]
theorem RowAt.free {w : World} {g : Nat} {t : TypeId} {L : List UInt8} (h : RowAt w g t L) (j : Nat) : w.frozen? ⟨g, j, none⟩ = false := frozen_of_row w g j _ _ h
theorem RowAt.set {w : World} {g : Nat} {t : TypeId} {L : List UInt8} (h : RowAt w g t L) (j : Nat) (x : UInt8) : RowAt (w.setCell ⟨g, j, none⟩ (.int .u8 (x.toNat : Int))) g t (L.set j x) := by
  have := heap_setCell_same w g j _ t (.int .u8 (x.toNat : Int)) h
  unfold RowAt
  rw [this, List.map_set]
  congr 2
  apply Array.toList_inj.1
  simp [byteV]
theorem RowAt.below {w w' : World} {g : Nat} {t : TypeId} {L : List UInt8} (h : RowAt w g t L) (hb : Below w.heap.size w w') : RowAt w' g t L :=
  (hb.block g (lt_of_block h)).trans h
theorem rowAt_adr (w : World) (s : Bool) (A : List UInt8) (t : TypeId) : At (w.alloc (.cells (adrC s A) t)) (some ⟨w.heap.size, 1, none⟩) A :=
  .inr ⟨_, _, rfl, fun i x hx => by
    rw [World.cell?_alloc_mark, adrC, List.getElem?_toArray, Nat.add_comm 1 i, List.getElem?_cons_succ, List.getElem?_map, hx]; rfl⟩
theorem RowAt.load {w : World} {g : Nat} {L : List UInt8} (hg : RowAt w g 143 L) (hL : L.length = 40) : (loadVar 143 ⟨g, 0, none⟩).run Try.prog w = .ok (.agg (L.map byteV).toArray) w :=
  run_loadVar_row w g 143 143 _ (0, 0) (.array 40 5) hg Try.underlying143 rfl (by rw [info143s, List.size_toArray, List.length_map, hL])

/-- a whole array of 40 bytes is read -/
theorem wpList_load143 (g : Nat) (L : List UInt8) {ops : Array Oper} {rest : List Oper} {dst : Option Tmp} {x : Tmp} {ty : TypeId} {pos : String} {aft : Array Edge} {a : Act} {w : World} {Q : Exit → Act → World → Prop}
    (hx : a.eval (.tmp x) = .pointer (some ⟨g, 0, none⟩)) (hg : RowAt w g 143 L) (hL : L.length = 40)
    (h : wpList Try.prog ops Q rest (a.put dst (.agg (L.map byteV).toArray)) w) : wpList Try.prog ops Q (⟨dst, .load 143 (.tmp x), ty, pos, aft, none⟩ :: rest) a w :=
  wpList_load_row rfl 143 (.tmp x) rfl g hx 143 _ (0, 0) (.array 40 5) hg Try.underlying143 rfl (by rw [info143s, List.size_toArray, List.length_map, hL]) h

/-- .. and written -/
theorem wpList_store143 (g : Nat) (L L' : List UInt8) {ops : Array Oper} {rest : List Oper} {dst : Option Tmp} {x y : Tmp} {ty : TypeId} {pos : String} {aft : Array Edge} {a : Act} {w : World} {Q : Exit → Act → World → Prop}
    (hx : a.eval (.tmp x) = .pointer (some ⟨g, 0, none⟩)) (hy : a.eval (.tmp y) = .agg (L'.map byteV).toArray) (hg : RowAt w g 143 L) (hL : L.length = 40) (hL' : L'.length = 40)
    (h : ∀ w', RowAt w' g 143 L' → Below g w w' → w'.heap.size = w.heap.size → wpList Try.prog ops Q rest (a.put dst undef) w') : wpList Try.prog ops Q (⟨dst, .store 143 (.tmp x) (.tmp y), ty, pos, aft, none⟩ :: rest) a w :=
  wpList_store_row rfl 143 (.tmp x) (.tmp y) rfl g 143 _ _ hx hy hg (by rw [info143s, List.size_toArray, List.length_map, hL']) (by simp [hL, hL']) (bytes_oneCellA L')
    (h _ (setRow_heap w g _ _ 143 (0, 0) hg) (below_setRow (Below.refl _ _) (Nat.le_refl _) _) (by simp))
/-- .. as it is -/
theorem wpList_store143_self (g : Nat) (L : List UInt8) {ops : Array Oper} {rest : List Oper} {dst : Option Tmp} {x y : Tmp} {ty : TypeId} {pos : String} {aft : Array Edge} {a : Act} {w : World} {Q : Exit → Act → World → Prop}
    (hx : a.eval (.tmp x) = .pointer (some ⟨g, 0, none⟩)) (hy : a.eval (.tmp y) = .agg (L.map byteV).toArray) (hg : RowAt w g 143 L) (hL : L.length = 40)
    (h : wpList Try.prog ops Q rest (a.put dst undef) w) : wpList Try.prog ops Q (⟨dst, .store 143 (.tmp x) (.tmp y), ty, pos, aft, none⟩ :: rest) a w :=
  wpList_store_row rfl 143 (.tmp x) (.tmp y) rfl g 143 _ _ hx hy hg (by rw [info143s, List.size_toArray, List.length_map, hL]) rfl (bytes_oneCellA L)
    (by rw [setRow_self w g _ 143 (0, 0) hg]; exact h)

/-- an address lies in block g from o on -/
def AdrAt (w : World) (g o : Nat) (s : Bool) (A : List UInt8) : Prop := w.rangeAt g o (adrC s A).toList
theorem AdrAt.same {w w' : World} {g o : Nat} {s : Bool} {A : List UInt8} (h : AdrAt w g o s A) (hc : ∀ p v, w.cell? p = some v → w'.cell? p = some v) : AdrAt w' g o s A := fun j v hv => hc _ _ (h j v hv)
theorem AdrAt.below {w w' : World} {g o : Nat} {s : Bool} {A : List UInt8} (h : AdrAt w g o s A) (hb : Below w.heap.size w w') : AdrAt w' g o s A := h.same (below_cells hb)
theorem adrAt_new (w : World) (s : Bool) (A : List UInt8) (t : TypeId) : AdrAt (w.alloc (.cells (adrC s A) t)) w.heap.size 0 s A := fun j v hv => by
  rw [World.cell?_alloc_mark, Nat.zero_add, ← Array.getElem?_toList]; exact hv
theorem AdrAt.flag {w : World} {g o : Nat} {s : Bool} {A : List UInt8} (h : AdrAt w g o s A) : w.cell? ⟨g, o, none⟩ = some (.bool s) := h 0 _ rfl
theorem AdrAt.bytes {w : World} {g o : Nat} {s : Bool} {A : List UInt8} (h : AdrAt w g o s A) : At w (some ⟨g, o + 1, none⟩) A :=
  .inr ⟨_, _, rfl, fun i x hx => by
    have := h (i + 1) (byteV x) (by rw [adr_list, List.getElem?_cons_succ, List.getElem?_map, hx]; rfl)
    rw [show o + 1 + i = o + (i + 1) by omega]; exact this⟩
/-- an address is read -/
theorem wpList_load54 (g o : Nat) (s : Bool) (A : List UInt8) {ops : Array Oper} {rest : List Oper} {dst : Option Tmp} {x : Tmp} {ty : TypeId} {pos : String} {aft : Array Edge} {a : Act} {w : World} {Q : Exit → Act → World → Prop}
    (hx : a.eval (.tmp x) = .pointer (some ⟨g, o, none⟩)) (hg : AdrAt w g o s A) (hA : A.length = 16)
    (h : wpList Try.prog ops Q rest (a.put dst (.agg (adrC s A))) w) : wpList Try.prog ops Q (⟨dst, .load 54 (.tmp x), ty, pos, aft, none⟩ :: rest) a w :=
  wpList_load_mid rfl 54 (.tmp x) rfl g o hx _ _ hg Try.underlying54 rfl (by rw [info54s, Array.length_toList, adr_size, hA]) (by simpa using h)
/-- an address is read in a region that draws its order -/
theorem wpStill_load54 (g o : Nat) (s : Bool) (A : List UInt8) {ops : Array Oper} {rest : List Oper} {dst : Option Tmp} {x : Tmp} {ty : TypeId} {pos : String} {aft : Array Edge} {grd : Option (Tmp × Bool)} {a : Act} {w : World} {Q : Act → Prop}
    (hw : Region.wanted ⟨dst, .load 54 (.tmp x), ty, pos, aft, grd⟩ (yielded ops a.tmps) = true) (hx : a.eval (.tmp x) = .pointer (some ⟨g, o, none⟩)) (hg : AdrAt w g o s A) (hA : A.length = 16)
    (h : wpStill Try.prog ops w Q rest (a.put dst (.agg (adrC s A)))) : wpStill Try.prog ops w Q (⟨dst, .load 54 (.tmp x), ty, pos, aft, grd⟩ :: rest) a := by
  refine wpStill_step fun K hK => ?_
  rw [if_pos hw]
  have hr := run_loadVar_mid (P := Try.prog) w g o 54 _ _ hg Try.underlying54 rfl (by rw [info54s, Array.length_toList, adr_size, hA])
  unfold Oper.still execOp
  simp only [hx, Instr.loadAt, Instr.sureAddr, Sem.run_bind, Sem.run_pure, Result.andThen_ok, hr, Oper.stillUpon]
  exact ⟨trivial, hK _ (by simpa using h)⟩
/-- the first so many of a slice's bytes -/
theorem bs_take {w : World} {a : Option Addr} {n c N : Nat} {bs : List UInt8} (h : Bs w (.slice a n c) bs) (hN : N ≤ bs.length) : Bs w (.slice a N c) (bs.take N) := by
  obtain ⟨a', c', e, h1, h2, hat⟩ := h
  simp only [Value.slice.injEq] at e
  obtain ⟨rfl, rfl, rfl⟩ := e
  have hl : (bs.take N).length = N := by rw [List.length_take]; omega
  refine ⟨a, c, by rw [hl], by omega, h2, ?_⟩
  rcases hat with h | ⟨b, o, e, h⟩
  · left; rw [h]; simp
  · exact .inr ⟨b, o, e, fun i x hx => h i x (by rw [List.getElem?_take] at hx; split at hx; exact hx; cases hx)⟩
end Go.Proofs.Ytnckmaieghlpmaa
namespace Go.Proofs.Ytnckmaieghlpmaa
open Go.RowKit
set_option linter.unusedVariables false

/-- n cells from a place on, as they are -/
def rd (w : World) (b o n : Nat) : Array Value := ((List.range n).map fun j => (w.cell? ⟨b, o + j, none⟩).getD undef).toArray
def has (w : World) (b o n : Nat) : Bool := (List.range n).all fun j => (w.cell? ⟨b, o + j, none⟩).isSome
/-- they may be written -/
def free (w : World) (b o n : Nat) : Bool := (List.range n).all fun j => (w.cell? ⟨b, o + j, none⟩).isSome && !(w.frozen? ⟨b, o + j, none⟩)

theorem has_spec {w : World} {b o n : Nat} : has w b o n = true ↔ ∀ j, j < n → (w.cell? ⟨b, o + j, none⟩).isSome = true := by
  simp [has, List.all_eq_true]
theorem free_spec {w : World} {b o n : Nat} : free w b o n = true ↔ w.there b o n := by
  simp [free, List.all_eq_true, World.there]
theorem rd_length (w : World) (b o n : Nat) : (rd w b o n).size = n := by simp [rd]
theorem rd_range {w : World} {b o n : Nat} (h : has w b o n = true) : w.rangeAt b o (rd w b o n).toList := fun j v hv => by
  rw [has_spec] at h
  have hj : j < n := by
    by_cases hj : j < n
    · exact hj
    · rw [List.getElem?_eq_none (by simp [rd]; omega)] at hv; cases hv
  have := h j hj
  obtain ⟨u, hu⟩ := Option.isSome_iff_exists.1 this
  simp [rd, List.getElem?_range hj, hu] at hv
  rw [hu, hv]
theorem range_rd {w : World} {b o : Nat} {cs : List Value} (h : w.rangeAt b o cs) : rd w b o cs.length = cs.toArray := by
  apply Array.toList_inj.1
  apply List.ext_getElem?
  intro j
  by_cases hj : j < cs.length
  · have := h j _ (List.getElem?_eq_getElem hj)
    simp [rd, this, hj]
  · rw [List.getElem?_eq_none (by simp [rd]; omega), List.getElem?_eq_none (by simpa using hj)]
theorem range_has {w : World} {b o : Nat} {cs : List Value} (h : w.rangeAt b o cs) : has w b o cs.length = true := by
  rw [has_spec]
  exact fun j hj => by rw [h j _ (List.getElem?_eq_getElem hj)]; rfl

/-- what a load, a store of such a type comes to -/
noncomputable def ldA (T : TypeId) (w : World) (v : Value) : Result Next := (execOp (fun _ => v) ⟨none, .load T (.tmp 0), 0, "", #[], none⟩).run Try.prog w
noncomputable def stA (T : TypeId) (w : World) (x y : Value) : Result Next := (execOp (fun o => match o with | .tmp 0 => x | _ => y) ⟨none, .store T (.tmp 0) (.tmp 1), 0, "", #[], none⟩).run Try.prog w

theorem fold_ld54 {ev : Operand → Value} {dst : Option Tmp} {x : Operand} {ty : TypeId} {pos : String} {aft : Array Edge} {g : Option (Tmp × Bool)} {w : World} :
    (execOp ev ⟨dst, .load 54 x, ty, pos, aft, g⟩).run Try.prog w = ldA 54 w (ev x) := rfl
theorem fold_st54 {ev : Operand → Value} {dst : Option Tmp} {x y : Operand} {ty : TypeId} {pos : String} {aft : Array Edge} {g : Option (Tmp × Bool)} {w : World} :
    (execOp ev ⟨dst, .store 54 x y, ty, pos, aft, g⟩).run Try.prog w = stA 54 w (ev x) (ev y) := rfl

theorem ldA_at {T : TypeId} {d : TypeDesc} {n : Nat} (hu : Try.prog.underlying T = some d) (hd : d.isRow = true) (hi : (Try.prog.info? T).map (·.size) = some n) {w : World} {b o : Nat} (h : has w b o n = true) :
    ldA T w (.pointer (some ⟨b, o, none⟩)) = .ok (.value (.agg (rd w b o n))) w := by
  have hr := run_loadVar_mid (P := Try.prog) w b o T _ d (rd_range h) hu hd (by rw [Array.length_toList, rd_length]; exact hi)
  unfold ldA execOp
  simp only [Instr.loadAt, Instr.sureAddr, Sem.run_bind, Sem.run_pure, Result.andThen_ok, hr]
theorem stA_at {T : TypeId} {n : Nat} (hi : (Try.prog.info? T).map (·.size) = some n) {w : World} {b o : Nat} {cs : Array Value} (hs : cs.size = n) (h1 : cs.all (·.oneCell') = true) (h : free w b o n = true) :
    stA T w (.pointer (some ⟨b, o, none⟩)) (.agg cs) = Result.ok Next.skip (w.setCells b o cs.toList) := by
  subst hs
  have hr := run_storeVar_mid (P := Try.prog) w b o T cs (free_spec.1 h) hi h1
  unfold stA execOp
  simp only [Instr.storeAt, Instr.sureAddr, Sem.run_bind, Sem.run_pure, Result.andThen_ok, hr]

theorem ld54_at {w : World} {b o : Nat} (h : has w b o 17 = true) : ldA 54 w (.pointer (some ⟨b, o, none⟩)) = .ok (.value (.agg (rd w b o 17))) w :=
  ldA_at Try.underlying54 rfl info54s h
theorem st54_at {w : World} {b o : Nat} {s : Bool} {A : List UInt8} (hA : A.length = 16) (h : free w b o 17 = true) :
    stA 54 w (.pointer (some ⟨b, o, none⟩)) (.agg (adrC s A)) = Result.ok Next.skip (w.setCells b o (adrC s A).toList) :=
  stA_at info54s (by rw [adr_size, hA]) (adr_oneCell s A) h

/-- an address that lies there -/
theorem AdrAt.has {w : World} {g o : Nat} {s : Bool} {A : List UInt8} (h : AdrAt w g o s A) (hA : A.length = 16) : has w g o 17 = true := by
  have := range_has h
  rwa [Array.length_toList, adr_size, hA] at this
theorem AdrAt.rd {w : World} {g o : Nat} {s : Bool} {A : List UInt8} (h : AdrAt w g o s A) (hA : A.length = 16) : rd w g o 17 = adrC s A := by
  have := range_rd h
  rwa [Array.length_toList, adr_size, hA] at this

/-! new blocks -/
theorem free_drew (w : World) (b o n : Nat) : free w.drew b o n = free w b o n := by simp [free]
theorem has_drew (w : World) (b o n : Nat) : has w.drew b o n = has w b o n := by simp [has]
theorem rd_drew (w : World) (b o n : Nat) : rd w.drew b o n = rd w b o n := by simp [rd]
theorem free_new (w : World) (cs : Array Value) (t : TypeId) (g n : Nat) (hg : w.heap.size = g) (hn : n ≤ cs.size) : free (w.alloc (.cells cs t)) g 0 n = true := by
  subst hg
  rw [free_spec]
  intro j hj
  rw [World.cell?_alloc_mark, World.frozen?_alloc_new]
  simp; omega
theorem free_alloc {w : World} {b o n : Nat} (h : free w b o n = true) (ob : Obj) : free (w.alloc ob) b o n = true := by
  rw [free_spec] at h ⊢
  exact World.there_alloc h ob
theorem free_new1 (w : World) (cs : Array Value) (t : TypeId) (n : Nat) : free (w.alloc (.cells cs t)) w.heap.size 0 n = decide (n ≤ cs.size) := by
  by_cases h : n ≤ cs.size
  · rw [free_new w cs t _ _ rfl h]; simp [h]
  · have : free (w.alloc (.cells cs t)) w.heap.size 0 n = false := by
      apply Bool.eq_false_iff.2
      intro hf
      have := (free_spec.1 hf (n - 1) (by omega)).1
      rw [World.cell?_alloc_mark] at this
      simp at this; omega
    rw [this]; simp; omega
theorem free_old (w : World) (b o n : Nat) (ob : Obj) (hb : b < w.heap.size) : free (w.alloc ob) b o n = free w b o n := by
  unfold free
  have e : ∀ j, (w.alloc ob).cell? ⟨b, o + j, none⟩ = w.cell? ⟨b, o + j, none⟩ := fun j => World.cell?_alloc_lt _ _ _ hb
  have f : ∀ j, (w.alloc ob).frozen? ⟨b, o + j, none⟩ = w.frozen? ⟨b, o + j, none⟩ := fun j => World.frozen?_alloc_old _ _ _ (Nat.ne_of_lt hb)
  simp [e, f]
theorem free_new2 (w : World) (cs : Array Value) (t : TypeId) (n : Nat) (ob : Obj) : free ((w.alloc (.cells cs t)).alloc ob) w.heap.size 0 n = decide (n ≤ cs.size) := by
  rw [free_old _ _ _ _ _ (by simp), free_new1]
theorem free_new3 (w : World) (cs : Array Value) (t : TypeId) (n : Nat) (ob : Obj) : free ((w.alloc ob).alloc (.cells cs t)) (w.heap.size + 1) 0 n = decide (n ≤ cs.size) := by
  have := free_new1 (w.alloc ob) cs t n
  rwa [size_alloc] at this
theorem free_setCells {w : World} {b o n : Nat} (h : free w b o n = true) (b' o' : Nat) (vs : List Value) : free (w.setCells b' o' vs) b o n = true := by
  rw [free_spec] at h ⊢
  exact World.there_setCells h b' o' vs
theorem below_sets {B b : Nat} (hb : B ≤ b) (vs : List Value) : ∀ (o : Nat) {a w : World}, Below B a w → Below B a (w.setCells b o vs) := by
  induction vs with
  | nil => intro o a w h; exact h
  | cons v vs ih => intro o a w h; exact ih (o + 1) (h.setCell hb v)
theorem size_sets (b : Nat) (vs : List Value) : ∀ (o : Nat) (w : World), (w.setCells b o vs).heap.size = w.heap.size := by
  induction vs with
  | nil => intro o w; rfl
  | cons v vs ih => intro o w; rw [World.setCells, ih]; simp
theorem adrAt_sets {w : World} {g : Nat} {s : Bool} {A : List UInt8} (h : free w g 0 17 = true) (hA : A.length = 16) : AdrAt (w.setCells g 0 (adrC s A).toList) g 0 s A :=
  World.rangeAt_setCells_same w g 0 _ (by rw [Array.length_toList, adr_size, hA]; exact free_spec.1 h)
theorem AdrAt.sets {w : World} {g o : Nat} {s : Bool} {A : List UInt8} (h : AdrAt w g o s A) (b o' : Nat) (vs : List Value) (hb : g ≠ b) : AdrAt (w.setCells b o' vs) g o s A :=
  World.rangeAt_setCells_apart h b o' vs (.inl hb)
theorem AdrAt.alloc {w : World} {g o : Nat} {s : Bool} {A : List UInt8} (h : AdrAt w g o s A) (ob : Obj) : AdrAt (w.alloc ob) g o s A := h.below (below_alloc w ob)
/-- a byte of it is written -/
theorem AdrAt.put {w : World} {g : Nat} {s : Bool} {A : List UInt8} (h : AdrAt w g 0 s A) (i : Nat) (x : UInt8) (hi : i < A.length) : AdrAt (w.setCell ⟨g, 1 + i, none⟩ (.int .u8 (x.toNat : Int))) g 0 s (A.set i x) := by
  intro j v hv
  rw [adr_list] at hv
  have hold : ∃ u, w.cell? ⟨g, 1 + i, none⟩ = some u := ⟨byteV (A[i]'hi), by
    have := h (i + 1) (byteV (A[i]'hi)) (by rw [adr_list, List.getElem?_cons_succ, List.getElem?_map, List.getElem?_eq_getElem hi]; rfl)
    rwa [show 0 + (i + 1) = 1 + i by omega] at this⟩
  obtain ⟨u, hu⟩ := hold
  by_cases hj : j = i + 1
  · subst hj
    rw [show 0 + (i + 1) = 1 + i by omega, World.cell?_setCell_same w _ _ hu]
    rw [List.getElem?_cons_succ, List.getElem?_map, List.getElem?_set_self hi] at hv
    exact hv
  · have : (w.setCell ⟨g, 1 + i, none⟩ (.int .u8 (x.toNat : Int))).cell? ⟨g, 0 + j, none⟩ = w.cell? ⟨g, 0 + j, none⟩ :=
      World.cell?_setCell_other w _ _ _ (by simp)
    rw [this]
    refine h j v ?_
    rw [adr_list]
    match j, hj with
    | 0, _ => exact hv
    | j + 1, hj =>
      rw [List.getElem?_cons_succ, List.getElem?_map, List.getElem?_set_ne (by omega)] at hv
      rw [List.getElem?_cons_succ, List.getElem?_map]; exact hv
end Go.Proofs.Ytnckmaieghlpmaa
namespace Go.Proofs.Ytnckmaieghlpmaa
open Go.RowKit
set_option linter.unusedVariables false

def mkS (bs : List UInt8) : ByteArray := ⟨bs.toArray⟩

theorem strOf (bs : List UInt8) : strOfNums (bs.map fun x => (x.toNat : Int)) = mkS bs := by
  unfold strOfNums mkS
  congr 2
  rw [List.map_map]
  have : ((fun n : Int => UInt8.ofNat n.toNat) ∘ fun x : UInt8 => (x.toNat : Int)) = id := by funext x; simp
  rw [this, List.map_id]

theorem conv_bs {w : World} {v : Value} {bs : List UInt8} (h : Bs w v bs) : (convert 24 9 v).run Try.prog w = .ok (.string (mkS bs)) w := by
  obtain ⟨a, c, rfl, _, _, hat⟩ := h
  rcases hat with rfl | ⟨b, o, rfl, hc⟩
  · show (convert 24 9 (.slice a 0 c)).run Try.prog w = _
    rw [run_convert_bytes_string w 24 9 5 a 0 c Try.underlying24 Try.underlying5 Try.underlying9]
    cases a with
    | none => rfl
    | some ad => rw [run_bytesToString w ad 0 c [] (by simp [loadCells, loadCellsFrom])]; rfl
  · have := run_convert_bytes_arg (P := Try.prog) w 24 5 Try.underlying24 Try.underlying5 b o bs.length c (bs.map fun x => (x.toNat : Int)) (by simp) (fun i hi => by
      rw [hc i bs[i] (by simp [hi])]
      simp [List.getD, hi]) 9 Try.underlying9
    rw [this, strOf]
theorem mkS_inj {a b : List UInt8} (h : mkS a = mkS b) : a = b := by
  have := congrArg (fun s : ByteArray => s.data.toList) h
  simpa [mkS] using this
theorem mkS_size (a : List UInt8) : (mkS a).size = a.length := by simp [mkS, ByteArray.size]
theorem mkS_append (a b : List UInt8) : mkS a ++ mkS b = mkS (a ++ b) := by
  apply ByteArray.ext
  simp [mkS]
end Go.Proofs.Ytnckmaieghlpmaa
namespace Go.Proofs.Ytnckmaieghlpmaa
open Go.RowKit
set_option linter.unusedVariables false

/-- what names a packet -/
structure NameD where
  s1 : Bool
  A1 : List UInt8
  s2 : Bool
  A2 : List UInt8
  proto : Nat
  id : Nat
/-- a part -/
structure PartD where
  nm : NameD
  pos : Int
  more : Bool
  bs : List UInt8
def NameD.ok (n : NameD) : Prop := n.A1.length = 16 ∧ n.A2.length = 16
def nameL (n : NameD) : List Value := (adrC n.s1 n.A1).toList ++ ((adrC n.s2 n.A2).toList ++ [.int .u8 (n.proto : Int), .int .u32 (n.id : Int)])
theorem nameL_len {n : NameD} (h : n.ok) : (nameL n).length = 36 := by
  simp only [nameL, List.length_append, Array.length_toList, adr_size, h.1, h.2, List.length_cons, List.length_nil]
def partL (p : PartD) (v : Value) : List Value := nameL p.nm ++ [.int .i64 p.pos, .bool p.more, v]
theorem partL_len {p : PartD} (h : p.nm.ok) (v : Value) : (partL p v).length = 39 := by
  simp only [partL, List.length_append, nameL_len h, List.length_cons, List.length_nil]
def nameA (n : NameD) : Array Value := (nameL n).toArray
def partA (p : PartD) (v : Value) : Array Value := (partL p v).toArray
theorem partA_list (p : PartD) (v : Value) : (partA p v).toList = partL p v := rfl
theorem partA_size {p : PartD} (h : p.nm.ok) (v : Value) : (partA p v).size = 39 := by rw [← Array.length_toList, partA_list, partL_len h]
theorem nameA_size {n : NameD} (h : n.ok) : (nameA n).size = 36 := by rw [← Array.length_toList]; exact nameL_len h
theorem partL_at {p : PartD} (h : p.nm.ok) (v : Value) : (partL p v)[36]? = some (.int .i64 p.pos) ∧ (partL p v)[37]? = some (.bool p.more) ∧ (partL p v)[38]? = some v := by
  have hl := nameL_len h
  refine ⟨?_, ?_, ?_⟩
  all_goals
    unfold partL
    rw [List.getElem?_append_right (by omega), hl]
    rfl
theorem partA_at {p : PartD} (h : p.nm.ok) (v : Value) : (partA p v)[36]? = some (.int .i64 p.pos) ∧ (partA p v)[37]? = some (.bool p.more) ∧ (partA p v)[38]? = some v := by
  have := partL_at h v
  rw [← Array.getElem?_toList, ← Array.getElem?_toList, ← Array.getElem?_toList]; exact this

theorem nameL_one (n : NameD) : ∀ v ∈ nameL n, v.oneCell' = true := fun v hv => by
  have ha : ∀ (s : Bool) (A : List UInt8), ∀ v ∈ (adrC s A).toList, v.oneCell' = true := fun s A v hv => by
    have := Array.all_eq_true_iff_forall_mem.1 (adr_oneCell s A) v (by simpa using hv)
    exact this
  rcases List.mem_append.1 hv with h | h
  · exact ha _ _ v h
  · rcases List.mem_append.1 h with h | h
    · exact ha _ _ v h
    · simp at h
      rcases h with rfl | rfl <;> rfl
theorem slice_one (a : Option Addr) (n c : Nat) : (Value.slice a n c).oneCell' = true := rfl
theorem partA_one {p : PartD} {v : Value} (hv : v.oneCell' = true) : (partA p v).all (·.oneCell') = true :=
  all_oneCell_toArray (fun u hu => by
    rcases List.mem_append.1 hu with h | h
    · exact nameL_one _ u h
    · simp at h
      rcases h with rfl | rfl | rfl
      · rfl
      · rfl
      · exact hv)
theorem nameA_one (n : NameD) : (nameA n).all (·.oneCell') = true := all_oneCell_toArray (nameL_one n)

theorem info90s : (Try.prog.info? 90).map (·.size) = some 39 := by kernel_rfl
theorem info121s : (Try.prog.info? 121).map (·.size) = some 36 := by kernel_rfl
theorem info124s : (Try.prog.info? 124).map (·.size) = some 37 := by kernel_rfl

section
variable {ev : Operand → Value} {dst : Option Tmp} {x y : Operand} {ty : TypeId} {pos : String} {aft : Array Edge} {g : Option (Tmp × Bool)} {w : World}
theorem fold_ld90 : (execOp ev ⟨dst, .load 90 x, ty, pos, aft, g⟩).run Try.prog w = ldA 90 w (ev x) := rfl
theorem fold_st90 : (execOp ev ⟨dst, .store 90 x y, ty, pos, aft, g⟩).run Try.prog w = stA 90 w (ev x) (ev y) := rfl
theorem fold_ld121 : (execOp ev ⟨dst, .load 121 x, ty, pos, aft, g⟩).run Try.prog w = ldA 121 w (ev x) := rfl
theorem fold_st121 : (execOp ev ⟨dst, .store 121 x y, ty, pos, aft, g⟩).run Try.prog w = stA 121 w (ev x) (ev y) := rfl
theorem fold_ld124 : (execOp ev ⟨dst, .load 124 x, ty, pos, aft, g⟩).run Try.prog w = ldA 124 w (ev x) := rfl
theorem fold_st124 : (execOp ev ⟨dst, .store 124 x y, ty, pos, aft, g⟩).run Try.prog w = stA 124 w (ev x) (ev y) := rfl
end
theorem ld90_at {w : World} {b o : Nat} (h : has w b o 39 = true) : ldA 90 w (.pointer (some ⟨b, o, none⟩)) = .ok (.value (.agg (rd w b o 39))) w := ldA_at Try.underlying90 rfl info90s h
theorem ld121_at {w : World} {b o : Nat} (h : has w b o 36 = true) : ldA 121 w (.pointer (some ⟨b, o, none⟩)) = .ok (.value (.agg (rd w b o 36))) w := ldA_at Try.underlying121 rfl info121s h
theorem ld124_at {w : World} {b o : Nat} (h : has w b o 37 = true) : ldA 124 w (.pointer (some ⟨b, o, none⟩)) = .ok (.value (.agg (rd w b o 37))) w := ldA_at Try.underlying124 rfl info124s h
theorem st90_at {w : World} {b o : Nat} {cs : Array Value} (hs : cs.size = 39) (h1 : cs.all (·.oneCell') = true) (h : free w b o 39 = true) :
    stA 90 w (.pointer (some ⟨b, o, none⟩)) (.agg cs) = Result.ok Next.skip (w.setCells b o cs.toList) := stA_at info90s hs h1 h
theorem st121_at {w : World} {b o : Nat} {cs : Array Value} (hs : cs.size = 36) (h1 : cs.all (·.oneCell') = true) (h : free w b o 36 = true) :
    stA 121 w (.pointer (some ⟨b, o, none⟩)) (.agg cs) = Result.ok Next.skip (w.setCells b o cs.toList) := stA_at info121s hs h1 h
theorem st124_at {w : World} {b o : Nat} {cs : Array Value} (hs : cs.size = 37) (h1 : cs.all (·.oneCell') = true) (h : free w b o 37 = true) :
    stA 124 w (.pointer (some ⟨b, o, none⟩)) (.agg cs) = Result.ok Next.skip (w.setCells b o cs.toList) := stA_at info124s hs h1 h

/-- a part lies in block g from o on -/
def PtAt (w : World) (g o : Nat) (p : PartD) (v : Value) : Prop := w.rangeAt g o (partL p v)
theorem PtAt.same {w w' : World} {g o : Nat} {p : PartD} {v : Value} (h : PtAt w g o p v) (hc : ∀ a u, w.cell? a = some u → w'.cell? a = some u) : PtAt w' g o p v := fun j u hu => hc _ _ (h j u hu)
theorem PtAt.below {w w' : World} {g o : Nat} {p : PartD} {v : Value} (h : PtAt w g o p v) (hb : Below w.heap.size w w') : PtAt w' g o p v := h.same (below_cells hb)
theorem PtAt.has {w : World} {g o : Nat} {p : PartD} {v : Value} (h : PtAt w g o p v) (hp : p.nm.ok) : has w g o 39 = true := by
  have := range_has h
  rwa [partL_len hp] at this
theorem PtAt.rd {w : World} {g o : Nat} {p : PartD} {v : Value} (h : PtAt w g o p v) (hp : p.nm.ok) : rd w g o 39 = partA p v := by
  have := range_rd h
  rwa [partL_len hp] at this
theorem PtAt.cells {w : World} {g o : Nat} {p : PartD} {v : Value} (h : PtAt w g o p v) (hp : p.nm.ok) :
    w.cell? ⟨g, o + 36, none⟩ = some (.int .i64 p.pos) ∧ w.cell? ⟨g, o + 37, none⟩ = some (.bool p.more) ∧ w.cell? ⟨g, o + 38, none⟩ = some v := by
  obtain ⟨h1, h2, h3⟩ := partL_at hp v
  exact ⟨h _ _ h1, h _ _ h2, h _ _ h3⟩
theorem ptAt_new (w : World) (p : PartD) (v : Value) (t : TypeId) : PtAt (w.alloc (.cells (partA p v) t)) w.heap.size 0 p v := fun j u hu => by
  rw [World.cell?_alloc_mark, Nat.zero_add, ← Array.getElem?_toList]; exact hu
theorem PtAt.alloc {w : World} {g o : Nat} {p : PartD} {v : Value} (h : PtAt w g o p v) (ob : Obj) : PtAt (w.alloc ob) g o p v := h.below (below_alloc w ob)
end Go.Proofs.Ytnckmaieghlpmaa
namespace Go.Proofs.Ytnckmaieghlpmaa
open Go.RowKit
set_option linter.unusedVariables false
attribute [local go_sem ↓] fold_ld90 fold_st90 Go.wp_at_zero Go.wp_at_succ
attribute [local go_sem] ld90_at st90_at

/-- where a part ends -/
def PartD.fin (p : PartD) : Int := p.pos + p.bs.length

set_option maxHeartbeats 400000 in
theorem end_any (w : World) (p : PartD) (v : Value) (hp : p.nm.ok) (hv : Bs w v p.bs) (h1 : -9223372036854775808 ≤ p.fin) (h2 : p.fin ≤ 9223372036854775807) :
    Calls Try.prog 78 #[.agg (partA p v)] w fun e w' => e = .returned (.int .i64 p.fin) ∧ Below w.heap.size w w' := by
  obtain ⟨c0, c1, c2⟩ := partA_at hp v
  have HN := Lib.hid (below_alloc w (.cells (partA p v) 90))
  obtain ⟨a, c, rfl, hl1, hl2, hat⟩ := hv
  clear hat
  unfold maxLen at hl2
  unfold PartD.fin at h1 h2
  have hf : p.pos + (p.bs.length : Int) = p.fin := rfl
  have HF := Lib.hid hf
  clear hf
  go_enter Try.func78, Try.ntmps78
  go_wp2_with fail
  go_ret
  exact ⟨by rw [← HF.out]; rfl, HN.out⟩

theorem mkS_toList (xs : List UInt8) : (mkS xs).toList = xs := by rw [ByteArray.toList_eq]; simp [mkS]
set_option maxHeartbeats 400000 in
theorem equal_any (w : World) (v u : Value) (xs ys : List UInt8) (hv : Bs w v xs) (hu : Bs w u ys) :
    Calls Try.prog 87 #[v, u] w fun e w' => e = .returned (.bool (decide (xs = ys))) ∧ w = w' := by
  have k1 := conv_bs hv
  have k2 := conv_bs hu
  obtain ⟨S, hS⟩ : ∃ S, S = mkS xs := ⟨_, rfl⟩
  obtain ⟨T, hT⟩ : ∃ T, T = mkS ys := ⟨_, rfl⟩
  rw [← hS] at k1
  rw [← hT] at k2
  obtain ⟨a, c, rfl, hl1, hl2, hat⟩ := hv
  obtain ⟨a', c', rfl, hl1', hl2', hat'⟩ := hu
  clear hat hat'
  have HS := Lib.hid hS
  have HT := Lib.hid hT
  clear hS hT
  go_enter Try.func87, Try.ntmps87
  go_wp2_with fail
  go_ret
  refine ⟨?_, rfl⟩
  have e : (S.toList == T.toList) = decide (xs = ys) := by
    rw [HS.out, HT.out, mkS_toList, mkS_toList, Bool.eq_iff_iff]; simp
  rw [← e]; rfl

/-- are two parts of a packet the same? -/
def sameB (p q : PartD) : Bool := decide (p.pos = q.pos ∧ p.more = q.more ∧ p.bs = q.bs)

set_option maxHeartbeats 1000000 in
theorem same_any (w : World) (p q : PartD) (v u : Value) (hp : p.nm.ok) (hq : q.nm.ok) (hv : Bs w v p.bs) (hu : Bs w u q.bs) :
    Calls Try.prog 72 #[.agg (partA p v), .agg (partA q u)] w fun e w' => e = .returned (.bool (sameB p q)) ∧ Below w.heap.size w w' := by
  obtain ⟨c0, c1, c2⟩ := partA_at hp v
  obtain ⟨d0, d1, d2⟩ := partA_at hq u
  have HN := Lib.hid (((Below.refl _ _).alloc (Nat.le_refl _) (.cells (partA p v) 90)).alloc (by simp) (.cells (partA q u) 90) : Below w.heap.size w ((w.alloc (.cells (partA p v) 90)).alloc (.cells (partA q u) 90)))
  have HE := Lib.hid (equal_any ((w.alloc (.cells (partA p v) 90)).alloc (.cells (partA q u) 90)) v u p.bs q.bs ((hv.alloc _).alloc _) ((hu.alloc _).alloc _))
  by_cases h1 : p.pos = q.pos
  · by_cases h2 : p.more = q.more
    · have hs : sameB p q = decide (p.bs = q.bs) := by unfold sameB; simp [h1, h2]
      have b1 : (p.pos == q.pos) = true := by rw [beq_iff_eq]; exact h1
      have b2 : (p.more == q.more) = true := by rw [beq_iff_eq]; exact h2
      have HS := Lib.hid hs
      clear h1 h2 hs
      go_enter Try.func72, Try.ntmps72
      go_wp2_with fail
      refine HE.out.mono ?_
      rintro e w1 ⟨rfl, rfl⟩
      go_wp2_with fail
      go_ret
      exact ⟨by rw [HS.out]; rfl, HN.out⟩
    · have hs : sameB p q = false := by unfold sameB; simp [h1, h2]
      rw [hs]
      have b1 : (p.pos == q.pos) = true := by rw [beq_iff_eq]; exact h1
      have b2 : (p.more == q.more) = false := by rw [beq_eq_false_iff_ne]; exact h2
      clear h1 h2 hs HE
      go_enter Try.func72, Try.ntmps72
      go_wp2_with fail
      go_ret
      exact ⟨rfl, HN.out⟩
  · have hs : sameB p q = false := by unfold sameB; simp [h1]
    rw [hs]
    have b1 : (p.pos == q.pos) = false := by rw [beq_eq_false_iff_ne]; exact h1
    clear h1 hs HE
    go_enter Try.func72, Try.ntmps72
    go_wp2_with fail
    go_ret
    exact ⟨rfl, HN.out⟩
end Go.Proofs.Ytnckmaieghlpmaa
