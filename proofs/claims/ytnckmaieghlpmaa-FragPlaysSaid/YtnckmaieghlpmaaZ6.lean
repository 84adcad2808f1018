/-
  A packet's name, a packet: as built aggregates.
  A table in memory: its blocks, what it keeps.
  The closure of Take that takes a packet out of the table.
  A table in memory: a packet goes, a packet comes, a part comes.
  What frag.Take's walk carries along.
  What the second half of frag.Take's walk carries along.
  frag.Take behind the tests: the part comes in; the packet is told, or waits.
-/
import Derived.Test.YtnckmaieghlpmaaZ3
import Derived.Test.YtnckmaieghlpmaaZ5
import Derived.Deep.DeepCutAuto
import Derived.Outline
namespace Go.Proofs.Ytnckmaieghlpmaa
open Go.RowKit
set_option linter.unusedVariables false
theorem list16 {α : Type} : ∀ (A : List α), A.length = 16 → ∃ a0 a1 a2 a3 a4 a5 a6 a7 a8 a9 a10 a11 a12 a13 a14 a15, A = [a0, a1, a2, a3, a4, a5, a6, a7, a8, a9, a10, a11, a12, a13, a14, a15]
  | [a0, a1, a2, a3, a4, a5, a6, a7, a8, a9, a10, a11, a12, a13, a14, a15], _ => ⟨_, _, _, _, _, _, _, _, _, _, _, _, _, _, _, _, rfl⟩
set_option maxRecDepth 100000 in
theorem built121 (n : NameD) (h : n.ok) : Try.prog.built 121 [(0, .agg (adrC n.s1 n.A1)), (1, .agg (adrC n.s2 n.A2)), (2, .int .u8 (n.proto : Int)), (3, .int .u32 (n.id : Int))] = some (nameA n) := by
  obtain ⟨s1, A1, s2, A2, p, i⟩ := n
  obtain ⟨h1, h2⟩ := h
  obtain ⟨a0, a1, a2, a3, a4, a5, a6, a7, a8, a9, a10, a11, a12, a13, a14, a15, rfl⟩ := list16 A1 h1
  obtain ⟨b0, b1, b2, b3, b4, b5, b6, b7, b8, b9, b10, b11, b12, b13, b14, b15, rfl⟩ := list16 A2 h2
  kernel_rfl
set_option maxRecDepth 100000 in
theorem built124 (n : NameD) (h : n.ok) : Try.prog.built 124 [(0, .agg (nameA n))] = some (pkA n (.slice none 0 0)) := by
  obtain ⟨s1, A1, s2, A2, p, i⟩ := n
  obtain ⟨h1, h2⟩ := h
  obtain ⟨a0, a1, a2, a3, a4, a5, a6, a7, a8, a9, a10, a11, a12, a13, a14, a15, rfl⟩ := list16 A1 h1
  obtain ⟨b0, b1, b2, b3, b4, b5, b6, b7, b8, b9, b10, b11, b12, b13, b14, b15, rfl⟩ := list16 A2 h2
  kernel_rfl
theorem run_build124 (w : World) (n : NameD) (h : n.ok) : (Instr.build 124 #[(0, .agg (nameA n))]).run Try.prog w = .ok (.agg (pkA n (.slice none 0 0))) w := run_build w 124 _ _ (built124 n h)
set_option maxRecDepth 100000 in
theorem run_slice113 (w : World) (n : NameD) (v : Value) (h : n.ok) : (Instr.buildSlice 113 1 #[(0, .agg (pkA n v))]).run Try.prog w = .ok (.slice (some ⟨w.heap.size, 0, none⟩) 1 1) (w.alloc (.cells (pkA n v) 124)) := by
  obtain ⟨s1, A1, s2, A2, p, i⟩ := n
  obtain ⟨h1, h2⟩ := h
  obtain ⟨a0, a1, a2, a3, a4, a5, a6, a7, a8, a9, a10, a11, a12, a13, a14, a15, rfl⟩ := list16 A1 h1
  obtain ⟨b0, b1, b2, b3, b4, b5, b6, b7, b8, b9, b10, b11, b12, b13, b14, b15, rfl⟩ := list16 A2 h2
  kernel_rfl
set_option maxRecDepth 100000 in
theorem run_slice83 (w : World) (p : PartD) (v : Value) (h : p.nm.ok) : (Instr.buildSlice 83 1 #[(0, .agg (partA p v))]).run Try.prog w = .ok (.slice (some ⟨w.heap.size, 0, none⟩) 1 1) (w.alloc (.cells (partA p v) 90)) := by
  obtain ⟨⟨s1, A1, s2, A2, p, i⟩, pos, more, bs⟩ := p
  obtain ⟨h1, h2⟩ := h
  obtain ⟨a0, a1, a2, a3, a4, a5, a6, a7, a8, a9, a10, a11, a12, a13, a14, a15, rfl⟩ := list16 A1 h1
  obtain ⟨b0, b1, b2, b3, b4, b5, b6, b7, b8, b9, b10, b11, b12, b13, b14, b15, rfl⟩ := list16 A2 h2
  kernel_rfl
end Go.Proofs.Ytnckmaieghlpmaa
namespace Go.Proofs.Ytnckmaieghlpmaa
open Go.RowKit
set_option linter.unusedVariables false

/-- nothing but blocks of M and new ones has turned -/
structure Only (M : Nat → Prop) (w w' : World) : Prop where
  os : w'.os = w.os
  tape : w'.tape = w.tape
  output : w'.output = w.output
  size : w.heap.size ≤ w'.heap.size
  block : ∀ k, k < w.heap.size → ¬ M k → w'.heap[k]? = w.heap[k]?
theorem Only.refl (M : Nat → Prop) (w : World) : Only M w w := ⟨rfl, rfl, rfl, Nat.le_refl _, fun _ _ _ => rfl⟩
theorem Only.of_below {M : Nat → Prop} {w w' : World} (h : Below w.heap.size w w') : Only M w w' := ⟨h.os, h.tape, h.output, h.size, fun k hk _ => h.block k hk⟩
theorem Only.trans {M M' : Nat → Prop} {a b c : World} (h : Only M a b) (k : Only M' b c) (hM : ∀ i, i < a.heap.size → M' i → M i) : Only M a c :=
  ⟨k.os.trans h.os, k.tape.trans h.tape, k.output.trans h.output, Nat.le_trans h.size k.size, fun i hi hn => (k.block i (Nat.lt_of_lt_of_le hi h.size) (fun hm => hn (hM i hi hm))).trans (h.block i hi hn)⟩
theorem Only.then {M : Nat → Prop} {a b c : World} (h : Only M a b) (k : Below b.heap.size b c) : Only M a c := h.trans (M' := M) (.of_below k) (fun _ _ h => h)
theorem Only.mono {M M' : Nat → Prop} {a b : World} (h : Only M a b) (hM : ∀ i, i < a.heap.size → M i → M' i) : Only M' a b :=
  ⟨h.os, h.tape, h.output, h.size, fun k hk hn => h.block k hk (fun hm => hn (hM k hk hm))⟩
theorem Only.below {M : Nat → Prop} {B : Nat} {a b : World} (h : Only M a b) (hB : B ≤ a.heap.size) (hM : ∀ k, M k → B ≤ k) : Below B a b :=
  ⟨h.os, h.tape, h.output, h.size, fun k hk => h.block k (by omega) (fun hm => by have := hM k hm; omega)⟩
theorem Only.of_grown {M : Nat → Prop} {w w' : World} {row : Option Nat} (h : w.grownBy w' row) (hr : ∀ k, row = some k → M k) : Only M w w' :=
  ⟨h.os, h.tape, h.output, h.size, fun k hk hn => h.block k hk (fun e => hn (hr k e.symm))⟩
theorem Only.setCell {M : Nat → Prop} {a b : World} (h : Only M a b) {p : Addr} (hp : M p.block) (v : Value) : Only M a (b.setCell p v) :=
  ⟨h.os, h.tape, h.output, by have := h.size; simp; exact this, fun k hk hn => by
    rw [Below.heap_setCell b p v k (fun e => hn (by rw [e]; exact hp))]; exact h.block k hk hn⟩
theorem Only.alloc {M : Nat → Prop} {a b : World} (h : Only M a b) (o : Obj) : Only M a (b.alloc o) := h.then (below_alloc b o)
theorem Only.drew {M : Nat → Prop} {a b : World} (h : Only M a b) : Only M a b.drew := ⟨h.os, h.tape, h.output, h.size, h.block⟩
theorem Only.cell {M : Nat → Prop} {a b : World} (h : Only M a b) {p : Addr} {v : Value} (hc : a.cell? p = some v) (hn : ¬ M p.block) : b.cell? p = some v :=
  (World.cell?_of_block (h.block p.block (World.block_lt_of_cell? a p hc) hn)).trans hc

/-- a packet in memory -/
structure PkM where
  nm : NameD
  v : Value
  ps : List (PartD × Value)
def PkM.T (x : PkM) : PkT := (x.nm, x.ps.map (·.1))
def PkM.row (x : PkM) : NameD × Value := (x.nm, x.v)
structure TabL (w : World) (M : Nat → Prop) (F : Nat) (many most : Int) (lv : Value) (L : List PkM) : Prop where
  blk : w.heap[F]? = some (.cells #[.int .i64 many, .int .i64 most, lv] 115 (0, 0))
  inF : M F
  own : w.ownsRow 0 124 37 lv L.length (pkRow (L.map PkM.row))
  inl : ∀ k, lv.ownBlock = some k → M k
  rows : ∀ x ∈ L, w.ownsRow 0 90 39 x.v x.ps.length (ptRow x.ps) ∧ ∀ k, x.v.ownBlock = some k → M k
  bs : ∀ x ∈ L, ∀ y ∈ x.ps, Own w 0 y.2 y.1.bs ∧ ∀ k, y.2.ownBlock = some k → M k
  apart : L.Pairwise fun x y => x.v.ownBlock ≠ y.v.ownBlock
  sub : ∀ k, M k → k < w.heap.size
/-- the table behind pointer F is T; its blocks are M's -/
def Tab (w : World) (M : Nat → Prop) (F : Nat) (many most : Int) (T : List PkT) : Prop := ∃ lv L, TabL w M F many most lv L ∧ L.map PkM.T = T

theorem ownsRow_keep {w w' : World} {base : Nat} {e : TypeId} {size : Nat} {v : Value} {n : Nat} {xs : List Value} (h : w.ownsRow base e size v n xs) (hb : ∀ k, v.ownBlock = some k → w'.heap[k]? = w.heap[k]?) : w'.ownsRow base e size v n xs := by
  refine ⟨h.1, ?_⟩
  rcases h.2 with hn | ⟨g, cap, cur, rfl, hbg, hg, rest⟩
  · exact .inl hn
  · exact .inr ⟨g, cap, cur, rfl, hbg, (hb g rfl).trans hg, rest⟩
theorem ownsRow_base {w : World} {base base' : Nat} {e : TypeId} {size : Nat} {v : Value} {n : Nat} {xs : List Value} (h : w.ownsRow base e size v n xs) (hb : ∀ k, v.ownBlock = some k → base' ≤ k) : w.ownsRow base' e size v n xs := by
  refine ⟨h.1, ?_⟩
  rcases h.2 with hn | ⟨g, cap, cur, rfl, hbg, rest⟩
  · exact .inl hn
  · exact .inr ⟨g, cap, cur, rfl, hb g rfl, rest⟩
theorem ownsRow_shape {w : World} {base : Nat} {e : TypeId} {size : Nat} {v : Value} {n : Nat} {xs : List Value} (h : w.ownsRow base e size v n xs) : ∃ a c, v = .slice a n c ∧ n ≤ c ∧ c ≤ 9223372036854775807 := by
  rcases h.2 with ⟨rfl, rfl⟩ | ⟨g, cap, cur, rfl, hbg, hg, h1, h2, _⟩
  · exact ⟨none, 0, rfl, Nat.le_refl _, Nat.zero_le _⟩
  · exact ⟨_, _, rfl, h1, by unfold maxLen at h2; omega⟩
theorem ownsRow_type {w : World} {base : Nat} {e : TypeId} {size : Nat} {v : Value} {n : Nat} {xs : List Value} (h : w.ownsRow base e size v n xs) {k : Nat} (hk : v.ownBlock = some k) : ∃ cur, w.heap[k]? = some (.cells cur e (0, 0)) := by
  rcases h.2 with ⟨rfl, rfl⟩ | ⟨g, cap, cur, rfl, hbg, hg, _⟩
  · cases hk
  · cases hk; exact ⟨cur, hg⟩
theorem type_apart {w : World} {k j : Nat} {c d : Array Value} {t u : TypeId} {f g : Nat × Nat} (hk : w.heap[k]? = some (.cells c t f)) (hj : w.heap[j]? = some (.cells d u g)) (h : t ≠ u) : k ≠ j := by
  rintro rfl
  rw [hk] at hj
  cases hj
  exact h rfl
theorem TabL.keep {w w' : World} {M : Nat → Prop} {F : Nat} {many most : Int} {lv : Value} {L : List PkM} (h : TabL w M F many most lv L) (hb : ∀ k, M k → w'.heap[k]? = w.heap[k]?) (hs : w.heap.size ≤ w'.heap.size) : TabL w' M F many most lv L :=
  ⟨(hb F h.inF).trans h.blk, h.inF, ownsRow_keep h.own (fun k hk => hb k (h.inl k hk)), h.inl, fun x hx => ⟨ownsRow_keep (h.rows x hx).1 (fun k hk => hb k ((h.rows x hx).2 k hk)), (h.rows x hx).2⟩,
    fun x hx y hy => ⟨ownsRow_keep (h.bs x hx y hy).1 (fun k hk => hb k ((h.bs x hx y hy).2 k hk)), (h.bs x hx y hy).2⟩, h.apart, fun k hk => Nat.lt_of_lt_of_le (h.sub k hk) hs⟩
theorem TabL.mono {w : World} {M M' : Nat → Prop} {F : Nat} {many most : Int} {lv : Value} {L : List PkM} (h : TabL w M F many most lv L) (hM : ∀ k, M k → M' k) (hs : ∀ k, M' k → k < w.heap.size) : TabL w M' F many most lv L :=
  ⟨h.blk, hM _ h.inF, h.own, fun k hk => hM k (h.inl k hk), fun x hx => ⟨(h.rows x hx).1, fun k hk => hM k ((h.rows x hx).2 k hk)⟩, fun x hx y hy => ⟨(h.bs x hx y hy).1, fun k hk => hM k ((h.bs x hx y hy).2 k hk)⟩, h.apart, hs⟩
theorem TabL.below {w w' : World} {M : Nat → Prop} {F : Nat} {many most : Int} {lv : Value} {L : List PkM} (h : TabL w M F many most lv L) (hb : Below w.heap.size w w') : TabL w' M F many most lv L :=
  h.keep (fun k hk => hb.block k (h.sub k hk)) hb.size
theorem TabL.only {w w' : World} {M N : Nat → Prop} {F : Nat} {many most : Int} {lv : Value} {L : List PkM} (h : TabL w M F many most lv L) (hb : Only N w w') (hd : ∀ k, M k → N k → False) : TabL w' M F many most lv L :=
  h.keep (fun k hk => hb.block k (h.sub k hk) (fun hn => hd k hk hn)) hb.size
theorem Tab.keep {w w' : World} {M : Nat → Prop} {F : Nat} {many most : Int} {T : List PkT} (h : Tab w M F many most T) (hb : ∀ k, M k → w'.heap[k]? = w.heap[k]?) (hs : w.heap.size ≤ w'.heap.size) : Tab w' M F many most T :=
  let ⟨lv, L, h, e⟩ := h; ⟨lv, L, h.keep hb hs, e⟩
theorem Tab.below {w w' : World} {M : Nat → Prop} {F : Nat} {many most : Int} {T : List PkT} (h : Tab w M F many most T) (hb : Below w.heap.size w w') : Tab w' M F many most T :=
  let ⟨lv, L, h, e⟩ := h; ⟨lv, L, h.below hb, e⟩
theorem Tab.only {w w' : World} {M N : Nat → Prop} {F : Nat} {many most : Int} {T : List PkT} (h : Tab w M F many most T) (hb : Only N w w') (hd : ∀ k, M k → N k → False) : Tab w' M F many most T :=
  let ⟨lv, L, h, e⟩ := h; ⟨lv, L, h.only hb hd, e⟩
theorem Tab.sub {w : World} {M : Nat → Prop} {F : Nat} {many most : Int} {T : List PkT} (h : Tab w M F many most T) : ∀ k, M k → k < w.heap.size := let ⟨_, _, h, _⟩ := h; h.sub
theorem TabL.cells {w : World} {M : Nat → Prop} {F : Nat} {many most : Int} {lv : Value} {L : List PkM} (h : TabL w M F many most lv L) :
    w.cell? ⟨F, 0, none⟩ = some (.int .i64 many) ∧ w.cell? ⟨F, 1, none⟩ = some (.int .i64 most) ∧ w.cell? ⟨F, 2, none⟩ = some lv ∧ w.frozen? ⟨F, 2, none⟩ = false := by
  refine ⟨?_, ?_, ?_, ?_⟩
  · rw [cell_of_row w F 0 _ _ _ h.blk]; rfl
  · rw [cell_of_row w F 1 _ _ _ h.blk]; rfl
  · rw [cell_of_row w F 2 _ _ _ h.blk]; rfl
  · simp [World.frozen?, h.blk]
theorem ptRow_one (L : List (PartD × Value)) (h : ∀ x ∈ L, x.2.oneCell' = true) : ∀ u ∈ ptRow L, u.oneCell' = true := fun u hu => by
  obtain ⟨x, hx, hu⟩ := List.mem_flatMap.1 hu
  rcases List.mem_append.1 hu with h1 | h1
  · exact nameL_one _ u h1
  · simp at h1
    rcases h1 with rfl | rfl | rfl
    · rfl
    · rfl
    · exact h x hx
theorem pkRow_one (L : List (NameD × Value)) (h : ∀ x ∈ L, x.2.oneCell' = true) : ∀ u ∈ pkRow L, u.oneCell' = true := fun u hu => by
  obtain ⟨x, hx, hu⟩ := List.mem_flatMap.1 hu
  rcases List.mem_append.1 hu with h1 | h1
  · exact nameL_one _ u h1
  · simp at h1; subst h1; exact h x hx
theorem own_one {w : World} {base : Nat} {e : TypeId} {size : Nat} {v : Value} {n : Nat} {xs : List Value} (h : w.ownsRow base e size v n xs) : v.oneCell' = true := by
  obtain ⟨a, c, rfl, _⟩ := ownsRow_shape h; rfl

/-- an empty table -/
theorem tab_new (w : World) (many most : Int) : Tab (w.alloc (.cells #[.int .i64 many, .int .i64 most, .slice none 0 0] 115)) (fun k => k = w.heap.size) w.heap.size many most [] := by
  refine ⟨.slice none 0 0, [], ⟨heap_alloc_new w _, rfl, World.ownsRow_nil _ _ _ _, fun k hk => (by cases hk), fun x hx => (by cases hx), fun x hx => (by cases hx), List.Pairwise.nil, fun k hk => ?_⟩, rfl⟩
  rw [hk]; simp
end Go.Proofs.Ytnckmaieghlpmaa
namespace Go.Proofs.Ytnckmaieghlpmaa
open Go.RowKit
set_option linter.unusedVariables false
set_option linter.unusedSimpArgs false

theorem grown_drew {w w1 : World} {row : Option Nat} (h : w.drew.grownBy w1 row) : w.grownBy w1 row := ⟨h.os, h.tape, h.output, h.size, h.block⟩
/-- what a deletion out of the table's row leaves -/
def GoneRet (w : World) (base F n : Nat) (lv : Value) (xs : List Value) (w' : World) : Prop :=
  ∃ lv' w1, w1.ownsRow base 124 37 lv' n xs ∧ w.grownBy w1 lv.ownBlock ∧ lv'.ownBlock = lv.ownBlock ∧ w' = w1.setCell ⟨F, 2, none⟩ lv'
def GoesS (gf ga F i : Nat) (w' : World) : Prop := w'.cell? ⟨gf, 0, none⟩ = some (.pointer (some ⟨F, 0, none⟩)) ∧ w'.cell? ⟨ga, 0, none⟩ = some (.int .i64 i)
set_option maxRecDepth 100000 in
set_option maxHeartbeats 4000000 in
theorem goes_any (w : World) (base gf ga F n i : Nat) (lv : Value) (xs : List Value) (hgf : w.cell? ⟨gf, 0, none⟩ = some (.pointer (some ⟨F, 0, none⟩))) (hga : w.cell? ⟨ga, 0, none⟩ = some (.int .i64 i)) (hF : w.cell? ⟨F, 2, none⟩ = some lv) (hz : w.frozen? ⟨F, 2, none⟩ = false)
    (hown : w.ownsRow base 124 37 lv n xs) (hi : i < n) (hn : n ≤ 4294967296) (h1c : ∀ u ∈ xs, u.oneCell' = true) (n1 : some gf ≠ lv.ownBlock) (n2 : some ga ≠ lv.ownBlock) (n3 : some F ≠ lv.ownBlock) (n4 : gf ≠ F) (n5 : ga ≠ F) :
    Calls Try.prog 68 #[.pointer (some ⟨gf, 0, none⟩), .pointer (some ⟨ga, 0, none⟩)] w fun e w' => e = .returned (.tuple #[]) ∧ GoneRet w base F (n - 1) lv (xs.take (i * 37) ++ xs.drop (i * 37 + 37)) w' := by
  have HD := Lib.hid (delete_any w.drew base n i lv xs hown hi h1c)
  have HF2 := Lib.hid hF
  have HFZ := Lib.hid hz
  have hw : IntKind.i64.wrap ((i : Int) + 1) = (i : Int) + 1 := by rw [IntKind.wrap_i64]; omega
  have hFl : F < w.heap.size := World.block_lt_of_cell? w ⟨F, 2, none⟩ hF
  have HGF := Lib.hid hgf
  have HGA := Lib.hid hga
  have H1 := Lib.hid n1
  have H2 := Lib.hid n2
  have H3 := Lib.hid n3
  clear hown h1c hz hgf hga n1 n2 n3 hF
  go_enter Try.func68, Try.ntmps68
  go_wp2_with fail
  refine wp_region_held_drew (S := fun w' => GoesS gf ga F i w') (by kernel_rfl) (⟨HGF.out, HGA.out⟩) (fun hHeld => ?_)
  refine' wpAnyH_take (i := 0) (v := _) rfl (by kernel_rfl) (by kernel_rfl) (by kernel_rfl) (fun _ _ _ h => h) (Or.inl ⟨by rfl, ?hy1⟩) hHeld ?rest1
  case hy1 => (intro w' hS; obtain ⟨s1, s2⟩ := hS; (try simp only [List.getElem_toArray, List.getElem_cons_zero, List.getElem_cons_succ]); go_simp; try with_reducible rfl)
  try simp only [List.getElem_toArray, List.getElem_cons_zero, List.getElem_cons_succ, Act.put, List.setIfInBounds_toArray, List.set_cons_zero, List.set_cons_succ]
  refine' wpAnyH_take (i := 1) (v := _) rfl (by kernel_rfl) (by kernel_rfl) (by kernel_rfl) (fun _ _ _ h => h) (Or.inl ⟨by rfl, ?hy2⟩) hHeld ?rest2
  case hy2 => (intro w' hS; obtain ⟨s1, s2⟩ := hS; (try simp only [List.getElem_toArray, List.getElem_cons_zero, List.getElem_cons_succ]); go_simp; try with_reducible rfl)
  try simp only [List.getElem_toArray, List.getElem_cons_zero, List.getElem_cons_succ, Act.put, List.setIfInBounds_toArray, List.set_cons_zero, List.set_cons_succ]
  refine' wpAnyH_take (i := 2) (v := _) rfl (by kernel_rfl) (by kernel_rfl) (by kernel_rfl) (fun _ _ _ h => h) (Or.inl ⟨by rfl, ?hy3⟩) hHeld ?rest3
  case hy3 => (intro w' hS; obtain ⟨s1, s2⟩ := hS; (try simp only [List.getElem_toArray, List.getElem_cons_zero, List.getElem_cons_succ]); go_simp; try with_reducible rfl)
  try simp only [List.getElem_toArray, List.getElem_cons_zero, List.getElem_cons_succ, Act.put, List.setIfInBounds_toArray, List.set_cons_zero, List.set_cons_succ]
  refine' wpAnyH_take (i := 3) (v := _) rfl (by kernel_rfl) (by kernel_rfl) (by kernel_rfl) (fun _ _ _ h => h) (Or.inl ⟨by rfl, ?hy4⟩) hHeld ?rest4
  case hy4 => (intro w' hS; obtain ⟨s1, s2⟩ := hS; (try simp only [List.getElem_toArray, List.getElem_cons_zero, List.getElem_cons_succ]); go_simp; try with_reducible rfl)
  try simp only [List.getElem_toArray, List.getElem_cons_zero, List.getElem_cons_succ, Act.put, List.setIfInBounds_toArray, List.set_cons_zero, List.set_cons_succ]
  refine' wpAnyH_take (i := 5) (v := _) rfl (by kernel_rfl) (by kernel_rfl) (by kernel_rfl) (fun _ _ _ h => h) (Or.inl ⟨by rfl, ?hy5⟩) hHeld ?rest5
  case hy5 => (intro w' hS; obtain ⟨s1, s2⟩ := hS; (try simp only [List.getElem_toArray, List.getElem_cons_zero, List.getElem_cons_succ]); go_simp; try with_reducible rfl)
  try simp only [List.getElem_toArray, List.getElem_cons_zero, List.getElem_cons_succ, Act.put, List.setIfInBounds_toArray, List.set_cons_zero, List.set_cons_succ]
  refine' wpAnyH_take (i := 6) (v := _) rfl (by kernel_rfl) (by kernel_rfl) (by kernel_rfl) (fun _ _ _ h => h) (Or.inl ⟨by rfl, ?hy6⟩) hHeld ?rest6
  case hy6 => (intro w' hS; obtain ⟨s1, s2⟩ := hS; (try simp only [List.getElem_toArray, List.getElem_cons_zero, List.getElem_cons_succ]); go_simp; try with_reducible rfl)
  try simp only [List.getElem_toArray, List.getElem_cons_zero, List.getElem_cons_succ, Act.put, List.setIfInBounds_toArray, List.set_cons_zero, List.set_cons_succ]
  refine' wpAnyH_take (i := 7) (v := _) rfl (by kernel_rfl) (by kernel_rfl) (by kernel_rfl) (fun _ _ _ h => h) (Or.inl ⟨by rfl, ?hy7⟩) hHeld ?rest7
  case hy7 => (intro w' hS; obtain ⟨s1, s2⟩ := hS; (try simp only [List.getElem_toArray, List.getElem_cons_zero, List.getElem_cons_succ]); go_simp; try with_reducible rfl)
  try simp only [List.getElem_toArray, List.getElem_cons_zero, List.getElem_cons_succ, Act.put, List.setIfInBounds_toArray, List.set_cons_zero, List.set_cons_succ]
  refine wpAnyH_ready (rs := [4]) (by kernel_rfl) (by simp) ?_
  refine (AllReadyH.cons rfl (fun K hK => ?_) AllReadyH.nil)
  obtain ⟨s1, s2⟩ := hHeld
  have hF := HF2.out
  go_simp
  clear hF s1 s2
  go_wp2_with fail
  refine hK.out _ _ (⟨HGF.out, HGA.out⟩) (fun hHeld => ?_)
  clear hK K
  try simp only [List.getElem_toArray, List.getElem_cons_zero, List.getElem_cons_succ, Act.put, List.setIfInBounds_toArray, List.set_cons_zero, List.set_cons_succ]
  refine wpAnyH_ready (rs := [8]) (by kernel_rfl) (by simp) ?_
  refine (AllReadyH.cons rfl (fun K hK => ?_) AllReadyH.nil)
  obtain ⟨s1, s2⟩ := hHeld
  go_simp
  refine HD.out.mono ?_
  rintro e w1 ⟨lv', rfl, hown', hgr, hob⟩
  obtain ⟨a', m', c', rfl⟩ : ∃ a' m' c', lv' = Value.slice a' m' c' := by rcases hown'.2 with ⟨h, _⟩ | ⟨g, cap, _, h, _⟩ <;> exact ⟨_, _, _, h⟩
  have g1 := hgr.cell (a := ⟨gf, 0, none⟩) s1 H1.out
  have g2 := hgr.cell (a := ⟨ga, 0, none⟩) s2 H2.out
  have HO := Lib.hid hown'
  have HG := Lib.hid (grown_drew hgr)
  have HB := Lib.hid hob
  have G12 := Lib.hid (And.intro g1 g2)
  clear hown' hgr hob s1 s2 g1 g2
  go_wp2_with fail
  refine hK.out _ _ (G12.out) (fun hHeld => ?_)
  clear hK K
  try simp only [List.getElem_toArray, List.getElem_cons_zero, List.getElem_cons_succ, Act.put, List.setIfInBounds_toArray, List.set_cons_zero, List.set_cons_succ]
  refine' wpAnyH_take (i := 9) (v := _) rfl (by kernel_rfl) (by kernel_rfl) (by kernel_rfl) (fun _ _ _ h => h) (Or.inl ⟨by rfl, ?hy10⟩) hHeld ?rest10
  case hy10 => (intro w' hS; obtain ⟨s1, s2⟩ := hS; (try simp only [List.getElem_toArray, List.getElem_cons_zero, List.getElem_cons_succ]); go_simp; try with_reducible rfl)
  try simp only [List.getElem_toArray, List.getElem_cons_zero, List.getElem_cons_succ, Act.put, List.setIfInBounds_toArray, List.set_cons_zero, List.set_cons_succ]
  refine' wpAnyH_take (i := 10) (v := _) rfl (by kernel_rfl) (by kernel_rfl) (by kernel_rfl) (fun _ _ _ h => h) (Or.inl ⟨by rfl, ?hy11⟩) hHeld ?rest11
  case hy11 => (intro w' hS; obtain ⟨s1, s2⟩ := hS; (try simp only [List.getElem_toArray, List.getElem_cons_zero, List.getElem_cons_succ]); go_simp; try with_reducible rfl)
  try simp only [List.getElem_toArray, List.getElem_cons_zero, List.getElem_cons_succ, Act.put, List.setIfInBounds_toArray, List.set_cons_zero, List.set_cons_succ]
  refine wpAnyH_ready (rs := [11]) (by kernel_rfl) (by simp) ?_
  refine (AllReadyH.cons rfl (fun K hK => ?_) AllReadyH.nil)
  obtain ⟨s1, s2⟩ := hHeld
  have hc2 := HG.out.cell (a := ⟨F, 2, none⟩) HF2.out H3.out
  have hz2 : w1.frozen? ⟨F, 2, none⟩ = false := (World.frozen?_of_block (a := ⟨F, 2, none⟩) (HG.out.block F hFl H3.out)).trans HFZ.out
  go_simp
  go_wp2_with fail
  refine hK.out _ _ (⟨(World.cell?_setCell_other w1 ⟨F, 2, none⟩ ⟨gf, 0, none⟩ _ (by simp)).trans G12.out.1, (World.cell?_setCell_other w1 ⟨F, 2, none⟩ ⟨ga, 0, none⟩ _ (by simp)).trans G12.out.2⟩) (fun hHeld => ?_)
  clear hK K
  try simp only [List.getElem_toArray, List.getElem_cons_zero, List.getElem_cons_succ, Act.put, List.setIfInBounds_toArray, List.set_cons_zero, List.set_cons_succ]
  refine wpAnyH_done (by kernel_rfl) ?_ _
  go_wp2_with fail
  go_end0
  exact ⟨rfl, _, w1, HO.out, HG.out, HB.out, rfl⟩
end Go.Proofs.Ytnckmaieghlpmaa
namespace Go.Proofs.Ytnckmaieghlpmaa
open Go.RowKit
set_option linter.unusedVariables false

theorem flat_set {α β : Type} (f : α → List β) (s : Nat) : ∀ (L : List α) (h : ∀ x ∈ L, (f x).length = s) (i j : Nat) (x y : α) (u : β), L[i]? = some x → j < s → (f x).set j u = f y → (L.flatMap f).set (i * s + j) u = (L.set i y).flatMap f
  | [], _, i, j, x, y, u, hx, _, _ => by simp at hx
  | z :: L, h, 0, j, x, y, u, hx, hj, hf => by
    simp at hx; subst hx
    rw [List.flatMap_cons, Nat.zero_mul, Nat.zero_add, List.set_append_left _ _ (by rw [h z (by simp)]; exact hj), hf, List.set_cons_zero, List.flatMap_cons]
  | z :: L, h, i + 1, j, x, y, u, hx, hj, hf => by
    rw [List.flatMap_cons, List.set_append_right _ _ (by rw [h z (by simp), Nat.succ_mul]; omega), h z (by simp), show (i + 1) * s + j - s = i * s + j by rw [Nat.succ_mul]; omega, List.set_cons_succ, List.flatMap_cons]
    rw [flat_set f s L (fun z hz => h z (by simp [hz])) i j x y u (by simpa using hx) hj hf]

theorem pkRow_erase (L : List (NameD × Value)) (h : ∀ x ∈ L, x.1.ok) (i : Nat) : (pkRow L).take (i * 37) ++ (pkRow L).drop (i * 37 + 37) = pkRow (L.eraseIdx i) := by
  have hs : ∀ x ∈ L, (pkL x.1 x.2).length = 37 := fun x hx => pkL_len (h x hx) _
  unfold pkRow
  rw [flat_take _ 37 L hs, show i * 37 + 37 = (i + 1) * 37 by rw [Nat.succ_mul], flat_drop _ 37 L hs, List.eraseIdx_eq_take_drop_succ, List.flatMap_append]
theorem pkL_set (n : NameD) (h : n.ok) (v u : Value) : (pkL n v).set 36 u = pkL n u := by
  unfold pkL
  rw [List.set_append_right _ _ (by rw [nameL_len h]; omega), nameL_len h]; rfl
theorem ptRow_ins (L : List (PartD × Value)) (h : ∀ x ∈ L, x.1.nm.ok) (i : Nat) (x : PartD × Value) : (ptRow L).take (i * 39) ++ partL x.1 x.2 ++ (ptRow L).drop (i * 39) = ptRow (L.take i ++ x :: L.drop i) := by
  have hs : ∀ x ∈ L, (partL x.1 x.2).length = 39 := fun x hx => partL_len (h x hx) _
  unfold ptRow
  rw [flat_take _ 39 L hs, flat_drop _ 39 L hs, List.flatMap_append, List.flatMap_cons, List.append_assoc]

theorem map_erase {α β : Type} (f : α → β) (L : List α) (i : Nat) : (L.map f).eraseIdx i = (L.eraseIdx i).map f := by
  simp only [List.eraseIdx_eq_take_drop_succ, List.map_append, List.map_take, List.map_drop]

section
variable {w w' : World} {M : Nat → Prop} {F : Nat} {many most : Int} {lv : Value} {L : List PkM}

theorem TabL.noF (h : TabL w M F many most lv L) {k : Nat} (hk : lv.ownBlock = some k) : k ≠ F := by
  obtain ⟨cur, hc⟩ := ownsRow_type h.own hk
  exact type_apart hc h.blk (by decide)
theorem gone_tab (h : TabL w M F many most lv L) {i : Nat} (hi : i < L.length) (hok : ∀ x ∈ L, x.nm.ok)
    (hg : GoneRet w 0 F (L.length - 1) lv ((pkRow (L.map PkM.row)).take (i * 37) ++ (pkRow (L.map PkM.row)).drop (i * 37 + 37)) w') : ∃ lv', TabL w' M F many most lv' (L.eraseIdx i) ∧ Only M w w' := by
  obtain ⟨lv', w1, how, hgr, hob, rfl⟩ := hg
  have hl1 : w1.heap[F]? = w.heap[F]? := hgr.block F (h.sub F h.inF) (fun e => h.noF e.symm rfl)
  have hsame : ∀ (k : Nat) (c : Array Value) (t : TypeId) (fr : Nat × Nat), t ≠ 115 → t ≠ 124 → w.heap[k]? = some (.cells c t fr) → (w1.setCell ⟨F, 2, none⟩ lv').heap[k]? = w.heap[k]? := fun k c t fr h1 h2 hk => by
    rw [heap_setCell_other _ _ _ _ (type_apart hk h.blk h1)]
    exact hgr.block k (lt_of_block hk) (fun e => by
      obtain ⟨cur, hc⟩ := ownsRow_type h.own e.symm
      exact type_apart hk hc h2 rfl)
  have hmem : ∀ x ∈ L.eraseIdx i, x ∈ L := fun x hx => List.mem_of_mem_eraseIdx hx
  refine ⟨lv', ⟨?_, h.inF, ?_, ?_, fun x hx => ⟨?_, (h.rows x (hmem x hx)).2⟩, fun x hx y hy => ⟨?_, (h.bs x (hmem x hx) y hy).2⟩, ?_, ?_⟩, ?_⟩
  · rw [heap_setCell_same w1 F 2 _ 115 lv' (hl1.trans h.blk)]; rfl
  · rw [List.length_eraseIdx_of_lt hi]
    rw [pkRow_erase (L.map PkM.row) (fun x hx => by obtain ⟨y, hy, rfl⟩ := List.mem_map.1 hx; exact hok y hy), map_erase] at how
    refine ownsRow_keep how (fun k hk => heap_setCell_other _ _ _ _ ?_)
    rw [hob] at hk
    exact h.noF hk
  · intro k hk
    rw [hob] at hk
    exact h.inl k hk
  · refine ownsRow_keep (h.rows x (hmem x hx)).1 (fun k hk => ?_)
    obtain ⟨cur, hc⟩ := ownsRow_type (h.rows x (hmem x hx)).1 hk
    exact hsame k cur 90 _ (by decide) (by decide) hc
  · refine ownsRow_keep (h.bs x (hmem x hx) y hy).1 (fun k hk => ?_)
    obtain ⟨cur, hc⟩ := ownsRow_type (h.bs x (hmem x hx) y hy).1 hk
    exact hsame k cur 5 _ (by decide) (by decide) hc
  · exact h.apart.sublist (List.eraseIdx_sublist L i)
  · intro k hk
    have := h.sub k hk
    have := hgr.size
    simp; omega
  · exact (Only.of_grown hgr h.inl).setCell (p := ⟨F, 2, none⟩) h.inF lv'

/-- a packet comes: its name in a new element, no part yet -/
theorem app_tab (h : TabL w M F many most lv L) (n : NameD) (hne : ∀ x ∈ L, x.v.ownBlock ≠ none) {lv' : Value} {w1 : World}
    (how : w1.ownsRow 0 124 37 lv' (L.length + 1) (pkRow (L.map PkM.row) ++ pkL n (.slice none 0 0))) (hgr : w.grownBy w1 lv.ownBlock) (hob : lv'.ownBlock = lv.ownBlock ∨ ∃ k, lv'.ownBlock = some k ∧ w.heap.size ≤ k) :
    TabL (w1.setCell ⟨F, 2, none⟩ lv') (fun k => M k ∨ (w.heap.size ≤ k ∧ k < w1.heap.size)) F many most lv' (L ++ [⟨n, .slice none 0 0, []⟩]) ∧ Only M w (w1.setCell ⟨F, 2, none⟩ lv') := by
  have hl1 : w1.heap[F]? = w.heap[F]? := hgr.block F (h.sub F h.inF) (fun e => h.noF e.symm rfl)
  have hsame : ∀ (k : Nat) (c : Array Value) (t : TypeId) (fr : Nat × Nat), t ≠ 115 → t ≠ 124 → w.heap[k]? = some (.cells c t fr) → (w1.setCell ⟨F, 2, none⟩ lv').heap[k]? = w.heap[k]? := fun k c t fr h1 h2 hk => by
    rw [heap_setCell_other _ _ _ _ (type_apart hk h.blk h1)]
    exact hgr.block k (lt_of_block hk) (fun e => by
      obtain ⟨cur, hc⟩ := ownsRow_type h.own e.symm
      exact type_apart hk hc h2 rfl)
  have hlt : ∀ k, lv'.ownBlock = some k → k < w1.heap.size := fun k hk => (how.lt k hk).2
  refine ⟨⟨?_, .inl h.inF, ?_, ?_, fun x hx => ?_, fun x hx y hy => ?_, ?_, ?_⟩, (Only.of_grown hgr h.inl).setCell (p := ⟨F, 2, none⟩) h.inF lv'⟩
  · rw [heap_setCell_same w1 F 2 _ 115 lv' (hl1.trans h.blk)]; rfl
  · rw [List.length_append, List.map_append]
    have e : pkRow (List.map PkM.row L ++ List.map PkM.row [⟨n, .slice none 0 0, []⟩]) = pkRow (L.map PkM.row) ++ pkL n (.slice none 0 0) := by
      simp [pkRow, PkM.row]
    rw [e]
    refine ownsRow_keep how (fun k hk => heap_setCell_other _ _ _ _ ?_)
    rcases hob with e | ⟨k', e, hk'⟩
    · rw [e] at hk; exact h.noF hk
    · rw [e] at hk
      have := h.sub F h.inF
      have : k' = k := by simpa using hk
      show k ≠ F
      omega
  · intro k hk
    have hk1 := hlt k hk
    rcases hob with e | ⟨k', e, hk'⟩
    · rw [e] at hk; exact .inl (h.inl k hk)
    · rw [e] at hk
      have : k' = k := by simpa using hk
      exact .inr ⟨by omega, hk1⟩
  · rcases List.mem_append.1 hx with hx | hx
    · refine ⟨ownsRow_keep (h.rows x hx).1 (fun k hk => ?_), fun k hk => .inl ((h.rows x hx).2 k hk)⟩
      obtain ⟨cur, hc⟩ := ownsRow_type (h.rows x hx).1 hk
      exact hsame k cur 90 _ (by decide) (by decide) hc
    · simp at hx; subst hx
      exact ⟨World.ownsRow_nil _ _ _ _, fun k hk => by cases hk⟩
  · rcases List.mem_append.1 hx with hx | hx
    · refine ⟨ownsRow_keep (h.bs x hx y hy).1 (fun k hk => ?_), fun k hk => .inl ((h.bs x hx y hy).2 k hk)⟩
      obtain ⟨cur, hc⟩ := ownsRow_type (h.bs x hx y hy).1 hk
      exact hsame k cur 5 _ (by decide) (by decide) hc
    · simp at hx; subst hx; cases hy
  · refine List.pairwise_append.2 ⟨h.apart, by simp, fun x hx y hy => ?_⟩
    simp at hy; subst hy
    exact hne x hx
  · intro k hk
    have := hgr.size
    simp
    rcases hk with hk | hk
    · have := h.sub k hk; omega
    · exact hk.2

/-- a part comes into packet i -/
theorem ins_tab (h : TabL w M F many most lv L) (hok : ∀ x ∈ L, x.nm.ok) {i gl n c : Nat} {x : PkM} (hx : L[i]? = some x) (hlv : lv = .slice (some ⟨gl, 0, none⟩) n c) {v' : Value} {w1 : World} {q : PartD × Value} {qs : List (PartD × Value)}
    (how : w1.ownsRow 0 90 39 v' qs.length (ptRow qs)) (hgr : w.grownBy w1 x.v.ownBlock) (hob : v'.ownBlock = x.v.ownBlock ∨ ∃ k, v'.ownBlock = some k ∧ w.heap.size ≤ k)
    (hqs : ∀ y ∈ qs, y = q ∨ y ∈ x.ps) (hq : Own w 0 q.2 q.1.bs) (hqM : ∀ k, q.2.ownBlock = some k → M k) (hv' : v'.ownBlock ≠ none) (hne : ∀ j y, L[j]? = some y → j ≠ i → y.v.ownBlock ≠ x.v.ownBlock) :
    TabL (w1.setCell ⟨gl, i * 37 + 36, none⟩ v') (fun k => M k ∨ (w.heap.size ≤ k ∧ k < w1.heap.size)) F many most lv (L.set i ⟨x.nm, v', qs⟩) ∧ Only M w (w1.setCell ⟨gl, i * 37 + 36, none⟩ v') := by
  have hxm := List.mem_of_getElem? hx
  have hil := (List.getElem?_eq_some_iff.1 hx).1
  have hgl : lv.ownBlock = some gl := by rw [hlv]; rfl
  obtain ⟨curl, hcl⟩ := ownsRow_type h.own hgl
  have hxv : ∀ {k : Nat} {t : TypeId} {c' : Array Value} {fr : Nat × Nat}, t ≠ 90 → w.heap[k]? = some (.cells c' t fr) → w1.heap[k]? = w.heap[k]? := fun {k t c' fr} ht hk => hgr.block k (lt_of_block hk) (fun e => by
    obtain ⟨cur, hc⟩ := ownsRow_type (h.rows x hxm).1 e.symm
    exact type_apart hk hc ht rfl)
  have hsame : ∀ (k : Nat) (c' : Array Value) (t : TypeId) (fr : Nat × Nat), t ≠ 124 → t ≠ 90 → w.heap[k]? = some (.cells c' t fr) → (w1.setCell ⟨gl, i * 37 + 36, none⟩ v').heap[k]? = w.heap[k]? := fun k c' t fr h1 h2 hk => by
    rw [heap_setCell_other _ _ _ _ (type_apart hk hcl h1)]
    exact hxv h2 hk
  have hlrow : w1.ownsRow 0 124 37 lv L.length (pkRow (L.map PkM.row)) := ownsRow_keep h.own (fun k hk => by
    obtain ⟨cur, hc⟩ := ownsRow_type h.own hk
    exact hxv (by decide) hc)
  obtain ⟨al, cl, hsh, _, _⟩ := ownsRow_shape h.own
  rw [hlv] at hsh
  cases hsh
  have hstored := (World.ownsRow.stored (hlv ▸ hlrow) (i * 37 + 36) v').1
  have hlt : ∀ k, v'.ownBlock = some k → k < w1.heap.size := fun k hk => (how.lt k hk).2
  have hother : ∀ y ∈ L, y.v.ownBlock ≠ x.v.ownBlock → ∀ k, y.v.ownBlock = some k → (w1.setCell ⟨gl, i * 37 + 36, none⟩ v').heap[k]? = w.heap[k]? := fun y hy hyx k hk => by
    obtain ⟨cur, hc⟩ := ownsRow_type (h.rows y hy).1 hk
    rw [heap_setCell_other _ _ _ _ (type_apart hc hcl (by decide))]
    exact hgr.block k (lt_of_block hc) (fun e => hyx (hk.trans e))
  refine ⟨⟨?_, .inl h.inF, ?_, fun k hk => .inl (h.inl k hk), fun y hy => ?_, fun y hy z hz => ?_, ?_, ?_⟩, (Only.of_grown hgr (fun k hk => (h.rows x hxm).2 k hk)).setCell (p := ⟨gl, i * 37 + 36, none⟩) (h.inl gl hgl) v'⟩
  · rw [heap_setCell_other _ _ _ _ (Ne.symm (h.noF hgl)), hxv (by decide) h.blk]; exact h.blk
  · rw [List.length_set, List.map_set]
    have hrow : (pkRow (L.map PkM.row)).set (i * 37 + 36) v' = pkRow ((L.map PkM.row).set i (x.nm, v')) := by
      unfold pkRow
      refine flat_set (fun y : NameD × Value => pkL y.1 y.2) 37 (L.map PkM.row) (fun y hy => ?_) i 36 (x.nm, x.v) (x.nm, v') v' ?_ (by omega) (pkL_set x.nm (hok x hxm) x.v v')
      · obtain ⟨z, hz, rfl⟩ := List.mem_map.1 hy
        exact pkL_len (hok z hz) _
      · rw [List.getElem?_map, hx]; rfl
    rw [hrow] at hstored
    rw [hlv]
    exact hstored
  · rcases List.mem_or_eq_of_mem_set hy with hy' | rfl
    · obtain ⟨j, hj⟩ := List.getElem?_of_mem hy
      rw [List.getElem?_set] at hj
      split at hj
      · rename_i hij
        simp at hj
        obtain ⟨_, rfl⟩ := hj
        refine ⟨ownsRow_keep how (fun k hk => heap_setCell_other _ _ _ _ ?_), fun k hk => ?_⟩
        · show k ≠ gl
          rcases hob with e | ⟨k', e, hk'⟩
          · obtain ⟨cur, hc⟩ := ownsRow_type (h.rows x hxm).1 (k := k) (e ▸ hk)
            exact type_apart hc hcl (by decide)
          · have hkk : k' = k := by
              have hk2 : v'.ownBlock = some k := hk
              rw [e] at hk2; simpa using hk2
            have := lt_of_block hcl
            omega
        · have hk1 := hlt k hk
          rcases hob with e | ⟨k', e, hk'⟩
          · exact .inl ((h.rows x hxm).2 k (e ▸ hk))
          · have hkk : k' = k := by
              have hk2 : v'.ownBlock = some k := hk
              rw [e] at hk2; simpa using hk2
            exact .inr ⟨by omega, hk1⟩
      · rename_i hij
        have hym := List.mem_of_getElem? hj
        refine ⟨ownsRow_keep (h.rows y hym).1 (hother y hym (hne j y hj (Ne.symm hij))), fun k hk => .inl ((h.rows y hym).2 k hk)⟩
    · refine ⟨ownsRow_keep how (fun k hk => heap_setCell_other _ _ _ _ ?_), fun k hk => ?_⟩
      · show k ≠ gl
        rcases hob with e | ⟨k', e, hk'⟩
        · obtain ⟨cur, hc⟩ := ownsRow_type (h.rows x hxm).1 (k := k) (e ▸ hk)
          exact type_apart hc hcl (by decide)
        · have hkk : k' = k := by
            have hk2 : v'.ownBlock = some k := hk
            rw [e] at hk2; simpa using hk2
          have := lt_of_block hcl
          omega
      · have hk1 := hlt k hk
        rcases hob with e | ⟨k', e, hk'⟩
        · exact .inl ((h.rows x hxm).2 k (e ▸ hk))
        · have hkk : k' = k := by
            have hk2 : v'.ownBlock = some k := hk
            rw [e] at hk2; simpa using hk2
          exact .inr ⟨by omega, hk1⟩
  · have hb : ∀ z : PartD × Value, Own w 0 z.2 z.1.bs → Own (w1.setCell ⟨gl, i * 37 + 36, none⟩ v') 0 z.2 z.1.bs := fun z hz => ownsRow_keep hz (fun k hk => by
      obtain ⟨cur, hc⟩ := ownsRow_type hz hk
      exact hsame k cur 5 _ (by decide) (by decide) hc)
    rcases List.mem_or_eq_of_mem_set hy with hy' | rfl
    · exact ⟨hb z (h.bs y hy' z hz).1, fun k hk => .inl ((h.bs y hy' z hz).2 k hk)⟩
    · rcases hqs z hz with rfl | hz
      · exact ⟨hb _ hq, fun k hk => .inl (hqM k hk)⟩
      · exact ⟨hb z (h.bs x hxm z hz).1, fun k hk => .inl ((h.bs x hxm z hz).2 k hk)⟩
  · have hnew : ∀ j y, L[j]? = some y → j ≠ i → y.v.ownBlock ≠ v'.ownBlock := fun j y hj hji e => by
      rcases hob with e2 | ⟨k', e2, hk'⟩
      · exact hne j y hj hji (e.trans e2)
      · rw [e2] at e
        obtain ⟨cur, hc⟩ := ownsRow_type (h.rows y (List.mem_of_getElem? hj)).1 e
        have := lt_of_block hc; omega
    refine List.pairwise_iff_getElem.2 (fun a b ha hb hab => ?_)
    have ha' : a < L.length := by simpa using ha
    have hb' : b < L.length := by simpa using hb
    rw [List.getElem_set, List.getElem_set]
    split
    · rename_i h1
      rw [if_neg (by omega)]
      exact Ne.symm (hnew b _ (List.getElem?_eq_getElem hb') (by omega))
    · rename_i h1
      split
      · exact hnew a _ (List.getElem?_eq_getElem ha') (by omega)
      · exact List.pairwise_iff_getElem.1 h.apart a b ha' hb' hab
  · intro k hk
    have := hgr.size
    simp
    rcases hk with hk | hk
    · have := h.sub k hk; omega
    · exact hk.2
end
end Go.Proofs.Ytnckmaieghlpmaa
namespace Go.Proofs.Ytnckmaieghlpmaa
open Go.RowKit
set_option linter.unusedVariables false
set_option linter.unusedSimpArgs false
attribute [local go_sem ↓] fold_ld54 fold_st54 fold_ld90 fold_st90 fold_ld121 fold_st121 fold_ld124 fold_st124 Go.wp_at_zero Go.wp_at_succ
theorem st121_nm {w : World} {b o : Nat} {n : NameD} (hn : n.ok) (h : free w b o 36 = true) : stA 121 w (.pointer (some ⟨b, o, none⟩)) (.agg (nameA n)) = Result.ok Next.skip (w.setCells b o (nameL n)) :=
  st121_at (nameA_size hn) (nameA_one n) h
theorem st90_pt {w : World} {b o : Nat} {p : PartD} {v : Value} (hn : p.nm.ok) (hv : v.oneCell' = true) (h : free w b o 39 = true) : stA 90 w (.pointer (some ⟨b, o, none⟩)) (.agg (partA p v)) = Result.ok Next.skip (w.setCells b o (partL p v)) :=
  st90_at (partA_size hn v) (partA_one hv) h
noncomputable def bdA (w : World) (v : Value) : Result Next := (Instr.build 124 #[(0, v)]).run Try.prog w |>.andThen fun x w' => .ok (.value x) w'
noncomputable def bsA (T : TypeId) (w : World) (v : Value) : Result Next := (Instr.buildSlice T 1 #[(0, v)]).run Try.prog w |>.andThen fun x w' => .ok (.value x) w'
section
variable {ev : Operand → Value} {dst : Option Tmp} {x y : Operand} {ty : TypeId} {pos : String} {aft : Array Edge} {g : Option (Tmp × Bool)} {w : World}
theorem fold_bd124 : (execOp ev ⟨dst, .build 124 #[(0, x)], ty, pos, aft, g⟩).run Try.prog w = bdA w (ev x) := by
  simp [execOp, bdA, Sem.run_bind]
theorem fold_bs113 : (execOp ev ⟨dst, .buildSlice 113 1 #[(0, x)], ty, pos, aft, g⟩).run Try.prog w = bsA 113 w (ev x) := by
  simp [execOp, bsA, Sem.run_bind]
theorem fold_bs83 : (execOp ev ⟨dst, .buildSlice 83 1 #[(0, x)], ty, pos, aft, g⟩).run Try.prog w = bsA 83 w (ev x) := by
  simp [execOp, bsA, Sem.run_bind]
end
theorem bd124_at {w : World} {n : NameD} (h : n.ok) : bdA w (.agg (nameA n)) = .ok (.value (.agg (pkA n (.slice none 0 0)))) w := by
  unfold bdA; rw [run_build124 w n h]; rfl
theorem bs113_at {w : World} {n : NameD} {v : Value} (h : n.ok) : bsA 113 w (.agg (pkA n v)) = .ok (.value (.slice (some ⟨w.heap.size, 0, none⟩) 1 1)) (w.alloc (.cells (pkA n v) 124)) := by
  unfold bsA; rw [run_slice113 w n v h]; rfl
theorem bs83_at {w : World} {p : PartD} {v : Value} (h : p.nm.ok) : bsA 83 w (.agg (partA p v)) = .ok (.value (.slice (some ⟨w.heap.size, 0, none⟩) 1 1)) (w.alloc (.cells (partA p v) 90)) := by
  unfold bsA; rw [run_slice83 w p v h]; rfl
attribute [local go_sem ↓] fold_bd124 fold_bs113 fold_bs83
attribute [local go_sem] bd124_at bs113_at bs83_at
attribute [local go_sem] ld54_at st54_at ld90_at st90_pt ld121_at st121_nm ld124_at free_new1

theorem PtAt.split {w : World} {g : Nat} {p : PartD} {v : Value} (h : PtAt w g 0 p v) (hp : p.nm.ok) :
    AdrAt w g 0 p.nm.s1 p.nm.A1 ∧ AdrAt w g 17 p.nm.s2 p.nm.A2 ∧ w.cell? ⟨g, 34, none⟩ = some (.int .u8 (p.nm.proto : Int)) ∧ w.cell? ⟨g, 35, none⟩ = some (.int .u32 (p.nm.id : Int)) := by
  have l1 : (adrC p.nm.s1 p.nm.A1).toList.length = 17 := by rw [Array.length_toList, adr_size, hp.1]
  have l2 : (adrC p.nm.s2 p.nm.A2).toList.length = 17 := by rw [Array.length_toList, adr_size, hp.2]
  have e0 : ∀ i u, (partL p v)[i]? = some u → w.cell? ⟨g, i, none⟩ = some u := fun i u hu => by
    have := h i u hu
    rwa [Nat.zero_add] at this
  refine ⟨fun j u hu => h j u ?_, fun j u hu => ?_, e0 34 _ ?_, e0 35 _ ?_⟩
  · unfold partL nameL
    rw [List.append_assoc, List.getElem?_append_left (List.getElem?_eq_some_iff.1 hu).1]; exact hu
  · refine e0 (17 + j) u ?_
    unfold partL nameL
    rw [List.append_assoc, List.getElem?_append_right (by omega), l1, show 17 + j - 17 = j by omega, List.append_assoc, List.getElem?_append_left (List.getElem?_eq_some_iff.1 hu).1]; exact hu
  · unfold partL nameL
    rw [List.append_assoc, List.getElem?_append_right (by omega), l1, List.append_assoc, List.getElem?_append_right (by omega), l2]; rfl
  · unfold partL nameL
    rw [List.append_assoc, List.getElem?_append_right (by omega), l1, List.append_assoc, List.getElem?_append_right (by omega), l2]; rfl

/-- Take's own boxes: of f, of p -/
structure B1 (p : PartD) (v : Value) (F gf gp : Nat) (w' : World) : Prop where
  cf : w'.cell? ⟨gf, 0, none⟩ = some (.pointer (some ⟨F, 0, none⟩))
  cp : PtAt w' gp 0 p v
  fp : w'.frozen? ⟨gp, 38, none⟩ = false
  ord : gf < gp ∧ gp < w'.heap.size
theorem b1_new (w : World) (p : PartD) (v : Value) (F : Nat) (hp : p.nm.ok) : B1 p v F w.heap.size (w.heap.size + 1) ((w.alloc (.cells #[.pointer (some ⟨F, 0, none⟩)] 85)).alloc (.cells (partA p v) 90)) := by
  refine ⟨?_, ?_, ?_, by omega, by simp⟩
  · rw [World.cell?_alloc_lt _ _ _ (by simp), World.cell?_alloc_mark]; rfl
  · have := ptAt_new (w.alloc (.cells #[.pointer (some ⟨F, 0, none⟩)] 85)) p v 90
    rwa [size_alloc] at this
  · have h := World.frozen?_alloc_new (w := w.alloc (.cells #[.pointer (some ⟨F, 0, none⟩)] 85)) (partA p v) 90 38
    rwa [size_alloc] at h
theorem B1.below {p : PartD} {v : Value} {F gf gp : Nat} {w' w'' : World} (h : B1 p v F gf gp w') (hb : Below w'.heap.size w' w'') : B1 p v F gf gp w'' :=
  ⟨below_cells hb _ _ h.cf, h.cp.below hb, (hb.frozen (p := ⟨gp, 38, none⟩) h.ord.2).trans h.fp, h.ord.1, Nat.lt_of_lt_of_le h.ord.2 hb.size⟩
theorem Bs.only {w w' : World} {v : Value} {bs : List UInt8} {N : Nat → Prop} (h : Bs w v bs) (ho : Only N w w') (hv : ∀ k, v.ownBlock = some k → ¬ N k) : Bs w' v bs := by
  obtain ⟨a, c, rfl, h1, h2, hat⟩ := h
  refine ⟨a, c, rfl, h1, h2, ?_⟩
  rcases hat with h | ⟨b, o, rfl, h⟩
  · exact .inl h
  · exact .inr ⟨b, o, rfl, fun i x hx => ho.cell (h i x hx) (hv b rfl)⟩
theorem B1.only {p : PartD} {v : Value} {F gf gp : Nat} {w' w'' : World} {N : Nat → Prop} (h : B1 p v F gf gp w') (ho : Only N w' w'') (n1 : ¬ N gf) (n2 : ¬ N gp) : B1 p v F gf gp w'' :=
  ⟨ho.cell h.cf n1, fun j u hu => ho.cell (h.cp j u hu) n2, (World.frozen?_of_block (a := ⟨gp, 38, none⟩) (ho.block gp h.ord.2 n2)).trans h.fp, h.ord.1, Nat.lt_of_lt_of_le h.ord.2 ho.size⟩
theorem call67 (args : Array Value) (w : World) : (callFunc 67 args).run Try.prog w = .ok (.enter 67 args) w := by go_simp
theorem nm_new (w : World) (Z : Array Value) (n : NameD) (hn : n.ok) (hZ : Z.size = 36 := by rfl) : NmAt ((w.alloc (.cells Z 121)).setCells w.heap.size 0 (nameL n)) w.heap.size 0 n ∧ w.heap.size = w.heap.size ∧ w.heap.size < ((w.alloc (.cells Z 121)).setCells w.heap.size 0 (nameL n)).heap.size ∧ Below w.heap.size w ((w.alloc (.cells Z 121)).setCells w.heap.size 0 (nameL n)) := by
  refine ⟨World.rangeAt_setCells_same _ _ _ _ (free_spec.1 ?_), rfl, ?_, below_sets (Nat.le_refl _) _ _ (below_alloc w _)⟩
  · rw [nameL_len hn, free_new1, hZ]; rfl
  · rw [size_sets, size_alloc]; omega
theorem ix_tab (w : World) (M : Nat → Prop) (F : Nat) (many most : Int) (lv : Value) (L : List PkM) (p : PartD) (gn : Nat) (hT : TabL w M F many most lv L) (hO : OkT many most (L.map PkM.T)) (hp : p.nm.fit) (hn : NmAt w gn 0 p.nm) :
    ∃ a c, lv = .slice a L.length c ∧ L.length ≤ c ∧ c ≤ 9223372036854775807 ∧
      Calls Try.prog 66 #[.slice a L.length c, .func (.func 67) #[] #[.pointer (some ⟨gn, 0, none⟩)]] w fun e w' => e = .returned (.int .i64 (ixR (fun x : NameD × Value => decide (x.1 = p.nm)) (L.map PkM.row))) ∧ Below w.heap.size w w' := by
  have hfit : ∀ x ∈ L.map PkM.row, x.1.fit := fun x hx => by
    obtain ⟨y, hy, rfl⟩ := List.mem_map.1 hx
    exact (hO.ok y.T (List.mem_map_of_mem hy)).1.fit
  have how := hT.own
  rw [← List.length_map (f := PkM.row)] at how
  obtain ⟨a, c, rfl, h1, h2, h3⟩ := pks_of_own (fun x hx => (hfit x hx).1) how
  have hcall := ixpk_any w 67 call67 (.pointer (some ⟨gn, 0, none⟩)) a c (L.map PkM.row) (fun x => decide (x.1 = p.nm)) h1 (by unfold maxLen at h2; omega) h3 (fun x hx => (hfit x hx).1)
    (fun x hx wr hb => take1_any wr gn x.1 p.nm x.2 (hfit x hx) hp (hn.below hb))
  rw [List.length_map] at h1 hcall
  exact ⟨a, c, by rw [List.length_map], h1, by unfold maxLen at h2; omega, hcall⟩

structure J1 (w : World) (M : Nat → Prop) (F : Nat) (many most : Int) (lv1 : Value) (L1 : List PkM) (p : PartD) (v : Value) (gf gp gn ga : Nat) (R : Int) (wx : World) : Prop where
  tab : TabL wx M F many most lv1 L1
  b1 : B1 p v F gf gp wx
  nm : NmAt wx gn 0 p.nm
  ca : wx.cell? ⟨ga, 0, none⟩ = some (.int .i64 R)
  fa : wx.frozen? ⟨ga, 0, none⟩ = false
  ord : gp < gn ∧ gn < ga ∧ ga < wx.heap.size
  base : w.heap.size ≤ gf
  only : Only M w wx
  sub : ∀ k, M k → k < w.heap.size
theorem drew_below (w : World) : Below w.heap.size w w.drew := below_drewN w 1
theorem J1.drew {w : World} {M : Nat → Prop} {F : Nat} {many most : Int} {lv1 : Value} {L1 : List PkM} {p : PartD} {v : Value} {gf gp gn ga : Nat} {R : Int} {wx : World} (h : J1 w M F many most lv1 L1 p v gf gp gn ga R wx) : J1 w M F many most lv1 L1 p v gf gp gn ga R wx.drew :=
  ⟨h.tab.below (drew_below wx), h.b1.below (drew_below wx), h.nm.below (drew_below wx), h.ca, h.fa, h.ord, h.base, h.only.drew, h.sub⟩
theorem j1_new {w : World} {M : Nat → Prop} {F : Nat} {many most : Int} {lv1 : Value} {L1 : List PkM} {p : PartD} {v : Value} {gf gp gn : Nat} {R : Int} {w4 : World} (hT : TabL w4 M F many most lv1 L1) (hB : B1 p v F gf gp w4) (hN : NmAt w4 gn 0 p.nm) (h1 : gp < gn) (h2 : gn < w4.heap.size) (hb : Below w.heap.size w w4) (hs : ∀ k, M k → k < w.heap.size) (hg : w.heap.size ≤ gf) :
    J1 w M F many most lv1 L1 p v gf gp gn w4.heap.size R (w4.alloc (.cells #[.int .i64 R] 3)) :=
  ⟨hT.below (below_alloc _ _), hB.below (below_alloc _ _), hN.below (below_alloc _ _), by rw [World.cell?_alloc_mark]; rfl, World.frozen?_alloc_new (w := w4) #[.int .i64 R] 3 0, ⟨h1, h2, by simp⟩, hg, (Only.of_below hb).alloc _, hs⟩
def Mx (M : Nat → Prop) (g : Nat) (w' : World) : Nat → Prop := fun k => M k ∨ (g < k ∧ k < w'.heap.size)
/-- where the ways meet: the part's packet is number i of the table -/
structure J2 (w : World) (M : Nat → Prop) (F : Nat) (many most : Int) (T : List PkT) (p : PartD) (v : Value) (gf gp ga : Nat) (wx : World) (lv' : Value) (L' : List PkM) (i : Nat) (x : PkM) : Prop where
  tab : TabL wx (Mx M ga wx) F many most lv' L'
  at_ : L'[i]? = some x
  nm : x.nm = p.nm
  step : takeS many most T p = stepIn (L'.map PkM.T) i p.nm (x.ps.map (·.1)) p
  pre : PreT many most (L'.map PkM.T)
  rest : ∀ j y, L'[j]? = some y → j ≠ i → y.v.ownBlock ≠ x.v.ownBlock
  b1 : B1 p v F gf gp wx
  ca : wx.cell? ⟨ga, 0, none⟩ = some (.int .i64 i)
  ord : gp < ga ∧ ga < wx.heap.size
  base : w.heap.size ≤ gf
  only : Only M w wx
  sub : ∀ k, M k → k < w.heap.size
  len : L'.length ≤ T.length + 1 ∧ ∀ y ∈ L', y.ps = [] ∨ y.T ∈ T
def J2e (w : World) (M : Nat → Prop) (F : Nat) (many most : Int) (T : List PkT) (p : PartD) (v : Value) (gf gp ga : Nat) (wx : World) : Prop := ∃ lv' L' i x, J2 w M F many most T p v gf gp ga wx lv' L' i x
def J1e (w : World) (M : Nat → Prop) (F : Nat) (many most : Int) (T : List PkT) (p : PartD) (v : Value) (gf gp gn ga : Nat) (wx : World) : Prop := ∃ lv1 L1, J1 w M F many most lv1 L1 p v gf gp gn ga (-1) wx ∧ L1.map PkM.T = T
theorem apart_rest {L : List PkM} {i : Nat} {x : PkM} (h : L.Pairwise fun x y => x.v.ownBlock ≠ y.v.ownBlock) (hx : L[i]? = some x) : ∀ j y, L[j]? = some y → j ≠ i → y.v.ownBlock ≠ x.v.ownBlock := fun j y hy hne => by
  obtain ⟨hi, rfl⟩ := List.getElem?_eq_some_iff.1 hx
  obtain ⟨hj, rfl⟩ := List.getElem?_eq_some_iff.1 hy
  rcases Nat.lt_or_ge j i with h1 | h1
  · exact List.pairwise_iff_getElem.1 h j i hj hi h1
  · exact Ne.symm (List.pairwise_iff_getElem.1 h i j hi hj (by omega))
theorem ix_none {L : List PkM} {n : NameD} (h : findPk (L.map PkM.T) n = none) : ixR (fun x : NameD × Value => decide (x.1 = n)) (L.map PkM.row) = -1 := by
  refine ixR_none (fun j x hx => ?_)
  obtain ⟨y, hy, rfl⟩ := List.mem_map.1 (List.mem_of_getElem? hx)
  have := find_none h y.T (List.mem_map_of_mem hy)
  exact decide_eq_false this
theorem ix_some {L : List PkM} {n : NameD} {i : Nat} (h : findPk (L.map PkM.T) n = some i) : ixR (fun x : NameD × Value => decide (x.1 = n)) (L.map PkM.row) = i := by
  obtain ⟨hi, h1, h2⟩ := List.findIdx?_eq_some_iff_getElem.1 h
  have hi' : i < L.length := by simpa using hi
  refine ixR_some (y := (L[i]'hi').row) (by rw [List.getElem?_map, List.getElem?_eq_getElem hi']; rfl) ?_ (fun j x hx hj => ?_)
  · simp only [List.getElem_map] at h1; exact h1
  · have hj' : j < L.length := by omega
    rw [List.getElem?_map, List.getElem?_eq_getElem hj'] at hx
    cases hx
    have := h2 j hj
    simp only [List.getElem_map] at this
    exact Bool.eq_false_iff.2 this
def S8 (gf F : Nat) (w' : World) : Prop := w'.cell? ⟨gf, 0, none⟩ = some (.pointer (some ⟨F, 0, none⟩)) ∧ True
def S7 (gf F : Nat) (many : Int) (lv : Value) (w' : World) : Prop := w'.cell? ⟨gf, 0, none⟩ = some (.pointer (some ⟨F, 0, none⟩)) ∧ w'.cell? ⟨F, 0, none⟩ = some (.int .i64 many) ∧ w'.cell? ⟨F, 2, none⟩ = some lv
theorem s7_of {w : World} {M : Nat → Prop} {F : Nat} {many most : Int} {lv1 : Value} {L1 : List PkM} {p : PartD} {v : Value} {gf gp gn ga : Nat} {R : Int} {wx : World} (h : J1 w M F many most lv1 L1 p v gf gp gn ga R wx) : S7 gf F many lv1 wx.drew :=
  ⟨h.b1.cf, h.tab.cells.1, h.tab.cells.2.2.1⟩
theorem TabL.mx {w : World} {M : Nat → Prop} {F : Nat} {many most : Int} {lv : Value} {L : List PkM} (h : TabL w M F many most lv L) (g : Nat) : TabL w (Mx M g w) F many most lv L :=
  h.mono (fun k hk => .inl hk) (fun k hk => hk.elim (h.sub k) (fun h => h.2))
theorem j2_found {w : World} {M : Nat → Prop} {F : Nat} {many most : Int} {lv1 : Value} {L1 : List PkM} {p : PartD} {v : Value} {gf gp gn ga i : Nat} {wx : World} (h : J1 w M F many most lv1 L1 p v gf gp gn ga i wx) (hO : OkT many most (L1.map PkM.T)) (hf : findPk (L1.map PkM.T) p.nm = some i) (hm : 1 ≤ many) (hmay : mayB most p = true) :
    J2e w M F many most (L1.map PkM.T) p v gf gp ga wx := by
  obtain ⟨ps, h1, h2⟩ := find_some hf
  rw [List.getElem?_map] at h1
  obtain ⟨x, hx, he⟩ := Option.map_eq_some_iff.1 h1
  have e1 : x.nm = p.nm := congrArg Prod.fst he
  have e2 : x.ps.map (·.1) = ps := congrArg Prod.snd he
  refine ⟨lv1, L1, i, x, h.tab.mx ga, hx, e1, ?_, hO.pre, apart_rest h.tab.apart hx, h.b1, h.ca, ⟨by have := h.ord; omega, h.ord.2.2⟩, h.base, h.only, h.sub, by simp, fun y hy => .inr (List.mem_map_of_mem hy)⟩
  unfold takeS
  rw [if_neg (by omega), if_neg (by rw [hmay]; simp), hf]
  simp only [h2, e2]

theorem Only.setNew {M : Nat → Prop} {a b : World} (h : Only M a b) {p : Addr} (hp : a.heap.size ≤ p.block) (v : Value) : Only M a (b.setCell p v) :=
  ⟨h.os, h.tape, h.output, by have := h.size; simp; exact this, fun k hk hn => by
    rw [Below.heap_setCell b p v k (fun e => by omega)]; exact h.block k hk hn⟩
section
variable {w : World} {M : Nat → Prop} {F : Nat} {many most : Int} {lv1 : Value} {L1 : List PkM} {p : PartD} {v : Value} {gf gp gn ga : Nat} {R : Int} {wx : World}
theorem J1.noM (h : J1 w M F many most lv1 L1 p v gf gp gn ga R wx) : ¬ M gf ∧ ¬ M gp ∧ ¬ M gn ∧ ¬ M ga := by
  have h1 := h.base
  have h2 := h.ord
  have h3 := h.b1.ord
  refine ⟨fun e => ?_, fun e => ?_, fun e => ?_, fun e => ?_⟩ <;> (have := h.sub _ e; omega)
theorem J1.step (h : J1 w M F many most lv1 L1 p v gf gp gn ga R wx) {lv2 : Value} {L2 : List PkM} {wx' : World} (ht : TabL wx' M F many most lv2 L2) (ho : Only M wx wx') : J1 w M F many most lv2 L2 p v gf gp gn ga R wx' := by
  obtain ⟨n1, n2, n3, n4⟩ := h.noM
  refine ⟨ht, h.b1.only ho n1 n2, fun j u hu => ho.cell (h.nm j u hu) n3, ho.cell h.ca n4, (World.frozen?_of_block (a := ⟨ga, 0, none⟩) (ho.block ga h.ord.2.2 n4)).trans h.fa, ⟨h.ord.1, h.ord.2.1, Nat.lt_of_lt_of_le h.ord.2.2 ho.size⟩, h.base, h.only.trans ho (fun _ _ h => h), h.sub⟩
theorem j1_gone (h : J1 w M F many most lv1 L1 p v gf gp gn ga (-1) wx) {lv2 : Value} {w1 : World} (ho : w1.ownsRow 0 124 37 lv2 (L1.length - 1) ((pkRow (L1.map PkM.row)).take (0 * 37) ++ (pkRow (L1.map PkM.row)).drop (0 * 37 + 37))) (hg : wx.grownBy w1 lv1.ownBlock) (hb : lv2.ownBlock = lv1.ownBlock)
    (hn : 0 < L1.length) (hfull : many ≤ ((L1.map PkM.T).length : Int)) (hok : ∀ x ∈ L1, x.nm.ok) : J1e w M F many most (roomed many (L1.map PkM.T)) p v gf gp gn ga (w1.setCell ⟨F, 2, none⟩ lv2) := by
  obtain ⟨lv', ht, hon⟩ := gone_tab h.tab hn hok ⟨lv2, w1, ho, hg, hb, rfl⟩
  refine ⟨lv', _, h.step ht hon, ?_⟩
  unfold roomed
  rw [if_pos hfull, map_erase]
theorem J1.setA (h : J1 w M F many most lv1 L1 p v gf gp gn ga R wx) (R' : Int) : J1 w M F many most lv1 L1 p v gf gp gn ga R' (wx.setCell ⟨ga, 0, none⟩ (.int .i64 R')) := by
  obtain ⟨n1, n2, n3, n4⟩ := h.noM
  have h1 := h.base
  have h2 := h.ord
  have h3 := h.b1.ord
  have ho : Only (fun k => k = ga) wx (wx.setCell ⟨ga, 0, none⟩ (.int .i64 R')) := Only.setCell (M := fun k => k = ga) (Only.refl _ _) (p := ⟨ga, 0, none⟩) rfl _
  refine ⟨h.tab.only ho (fun k hk e => n4 (e ▸ hk)), ⟨ho.cell h.b1.cf (by show ¬ gf = ga; omega), fun j u hu => ho.cell (h.b1.cp j u hu) (by show ¬ gp = ga; omega), ?_, h3.1, by simp; omega⟩, fun j u hu => ho.cell (h.nm j u hu) (by show ¬ gn = ga; omega), World.cell?_setCell_same _ _ _ h.ca, ?_, ⟨h2.1, h2.2.1, by simp; omega⟩, h.base, h.only.setNew (by show w.heap.size ≤ ga; omega) _, h.sub⟩
  · rw [World.frozen?_setCell]; exact h.b1.fp
  · rw [World.frozen?_setCell]; exact h.fa
/-- where a new packet's name and its element's block lie -/
def S10 (gf gn F : Nat) (n : NameD) (w' : World) : Prop := w'.cell? ⟨gf, 0, none⟩ = some (.pointer (some ⟨F, 0, none⟩)) ∧ has w' gn 0 36 = true ∧ rd w' gn 0 36 = nameA n
theorem s10_of (h : J1 w M F many most lv1 L1 p v gf gp gn ga R wx) (hp : p.nm.ok) : S10 gf gn F p.nm wx.drew := ⟨h.b1.cf, (h.nm.below (drew_below wx)).has hp, (h.nm.below (drew_below wx)).rd hp⟩
theorem s10_alloc (h : J1 w M F many most lv1 L1 p v gf gp gn ga R wx) (hp : p.nm.ok) {o : Obj} : S10 gf gn F p.nm (wx.alloc o).drew := by
  have hb := (below_alloc wx o).trans ((drew_below (wx.alloc o)).mono (by simp))
  exact ⟨below_cells hb _ _ h.b1.cf, (h.nm.below hb).has hp, (h.nm.below hb).rd hp⟩
theorem NmAt.cells' {w w' : World} {g : Nat} {n : NameD} (h : NmAt w g 0 n) (hc : ∀ p v, p.block = g → w.cell? p = some v → w'.cell? p = some v) : NmAt w' g 0 n := fun j u hu => hc _ _ rfl (h j u hu)
theorem s10_grown (h : J1 w M F many most lv1 L1 p v gf gp gn ga R wx) (hp : p.nm.ok) {o : Obj} {w1 : World} (hg : (wx.alloc o).drew.grownBy w1 lv1.ownBlock) (h1 : some gf ≠ lv1.ownBlock) (h2 : some gn ≠ lv1.ownBlock) : S10 gf gn F p.nm w1 := by
  have hb := (below_alloc wx o).trans ((drew_below (wx.alloc o)).mono (by simp))
  have hn : NmAt w1 gn 0 p.nm := (h.nm.below hb).cells' (fun q u e hq => hg.cell hq (by rw [e]; exact h2))
  exact ⟨hg.cell (below_cells hb _ _ h.b1.cf) h1, hn.has hp, hn.rd hp⟩
theorem z10_grown (h : J1 w M F many most lv1 L1 p v gf gp gn ga R wx) {o : Obj} {w1 : World} (hg : (wx.alloc o).drew.grownBy w1 lv1.ownBlock) (h3 : some F ≠ lv1.ownBlock) : w1.frozen? ⟨F, 2, none⟩ = false := by
  have hF := h.tab.sub F h.tab.inF
  have hb := (below_alloc wx o).trans ((drew_below (wx.alloc o)).mono (by simp))
  rw [World.frozen?_of_block (a := ⟨F, 2, none⟩) (hg.block F (by simp; omega) h3), hb.frozen (p := ⟨F, 2, none⟩) hF]
  exact h.tab.cells.2.2.2
theorem s10_set (h : J1 w M F many most lv1 L1 p v gf gp gn ga R wx) (hp : p.nm.ok) {o : Obj} {w1 : World} (hg : (wx.alloc o).drew.grownBy w1 lv1.ownBlock) (h1 : some gf ≠ lv1.ownBlock) (h2 : some gn ≠ lv1.ownBlock) {u : Value} : S10 gf gn F p.nm (w1.setCell ⟨F, 2, none⟩ u) := by
  obtain ⟨n1, n2, n3, n4⟩ := h.noM
  have hb := (below_alloc wx o).trans ((drew_below (wx.alloc o)).mono (by simp))
  have hn : NmAt (w1.setCell ⟨F, 2, none⟩ u) gn 0 p.nm := (h.nm.below hb).cells' (fun q x e hq => by
    rw [World.cell?_setCell_other w1 ⟨F, 2, none⟩ q _ (fun e2 => n3 (by rw [← e, ← e2]; exact h.tab.inF))]
    exact hg.cell hq (by rw [e]; exact h2))
  refine ⟨?_, hn.has hp, hn.rd hp⟩
  rw [World.cell?_setCell_other w1 ⟨F, 2, none⟩ ⟨gf, 0, none⟩ _ (by simp)]
  exact hg.cell (below_cells hb _ _ h.b1.cf) h1
theorem ne_own {w : World} {M : Nat → Prop} {F : Nat} {many most : Int} {lv : Value} {L : List PkM} (h : TabL w M F many most lv L) (hO : ∀ k ∈ L.map PkM.T, k.2 ≠ []) : ∀ x ∈ L, x.v.ownBlock ≠ none := fun x hx e => by
  rcases (h.rows x hx).1.2 with ⟨_, hn⟩ | ⟨g, cap, cur, hv, _⟩
  · have := hO x.T (List.mem_map_of_mem hx)
    simp [PkM.T, List.eq_nil_of_length_eq_zero hn] at this
  · rw [hv] at e; cases e
theorem j2_new (h : J1 w M F many most lv1 L1 p v gf gp gn ga L1.length wx) {T : List PkT} (hO : OkT many most T) (hT : L1.map PkM.T = roomed many T) (hno : findPk T p.nm = none) (hm : 1 ≤ many) (hmay : mayB most p = true) (hp : p.nm.fit) {o : Obj} {lv2 : Value} {w1 : World}
    (ho : w1.ownsRow 0 124 37 lv2 (L1.length + 1) (pkRow (L1.map PkM.row) ++ pkL p.nm (.slice none 0 0))) (hg : (wx.alloc o).drew.grownBy w1 lv1.ownBlock) (hb : lv2.ownBlock = lv1.ownBlock ∨ ∃ k, lv2.ownBlock = some k ∧ wx.heap.size < k) :
    J2e w M F many most T p v gf gp ga (w1.setCell ⟨F, 2, none⟩ lv2) := by
  obtain ⟨n1, n2, n3, n4⟩ := h.noM
  have hbl := (below_alloc wx o).trans ((drew_below (wx.alloc o)).mono (by simp))
  have hne : ∀ x ∈ L1, x.v.ownBlock ≠ none := ne_own h.tab (fun k hk => by
    rw [hT] at hk
    exact (hO.ok k (roomed_sub k hk)).2)
  obtain ⟨ht, hon⟩ := app_tab (h.tab.below hbl) p.nm hne ho hg (hb.imp id (fun ⟨k, e, hk⟩ => ⟨k, e, by simp; omega⟩))
  have ht2 : TabL (w1.setCell ⟨F, 2, none⟩ lv2) (Mx M ga (w1.setCell ⟨F, 2, none⟩ lv2)) F many most lv2 (L1 ++ [⟨p.nm, .slice none 0 0, []⟩]) := ht.mono (fun k hk => hk.imp id (fun h2 => ⟨by have := h.ord.2.2; have := h2.1; simp at this; omega, by simp; exact h2.2⟩)) (fun k hk => by
    rcases hk with hk | hk
    · exact ht.sub k (.inl hk)
    · exact hk.2)
  have hon2 : Only M wx (w1.setCell ⟨F, 2, none⟩ lv2) := (Only.of_below hbl).trans hon (fun _ _ h => h)
  have hcas : wx.heap.size ≤ (w1.setCell ⟨F, 2, none⟩ lv2).heap.size := hon2.size
  refine ⟨lv2, _, L1.length, ⟨p.nm, .slice none 0 0, []⟩, ht2, by simp, rfl, ?_, ?_, ?_, h.b1.only hon2 n1 n2, hon2.cell h.ca n4, ⟨by have := h.ord; omega, Nat.lt_of_lt_of_le h.ord.2.2 hcas⟩, h.base, h.only.trans hon2 (fun _ _ h => h), h.sub, ?_, ?_⟩
  · unfold takeS
    rw [if_neg (by omega), if_neg (by rw [hmay]; simp), hno]
    simp only [List.map_append, List.map_cons, List.map_nil, hT]
    have : (roomed many T).length = L1.length := by rw [← hT, List.length_map]
    rw [this]; rfl
  · rw [List.map_append, hT]
    exact pre_new hO hp hm hno
  · intro j y hy hj
    rcases Nat.lt_or_ge j L1.length with hlt | hge
    · rw [List.getElem?_append_left hlt] at hy
      exact hne y (List.mem_of_getElem? hy)
    · have := (List.getElem?_eq_some_iff.1 hy).1
      simp at this; omega
  · rw [List.length_append]
    have : L1.length = (roomed many T).length := by rw [← hT, List.length_map]
    have := roomed_len (many := many) (T := T)
    simp; omega
  · intro y hy
    rcases List.mem_append.1 hy with hy | hy
    · right
      have : y.T ∈ roomed many T := hT ▸ List.mem_map_of_mem hy
      exact roomed_sub _ this
    · simp at hy; subst hy
      exact .inl rfl
end
theorem app_run (w : World) (lv1 : Value) (L1 : List PkM) (n : NameD) (hn : n.ok) (hown : w.ownsRow 0 124 37 lv1 L1.length (pkRow (L1.map PkM.row))) (hl : L1.length ≤ 1048576) :
    ∃ v' w', (Builtin.append_ #[113, 113] 113 #[lv1, .slice (some ⟨w.heap.size, 0, none⟩) 1 1]).run Try.prog (w.alloc (.cells (pkA n (.slice none 0 0)) 124)).drew = .ok v' w' ∧ w'.ownsRow 0 124 37 v' (L1.length + 1) (pkRow (L1.map PkM.row) ++ pkL n (.slice none 0 0)) ∧
      (w.alloc (.cells (pkA n (.slice none 0 0)) 124)).drew.grownBy w' lv1.ownBlock ∧ (v'.ownBlock = lv1.ownBlock ∨ ∃ k, v'.ownBlock = some k ∧ w.heap.size < k) := by
  obtain ⟨i124, z124, hi, hz, hsize, hby, hzs⟩ := info124z
  obtain ⟨v', w', h1, h2, h3, h4, h5⟩ := run_append_own_at (P := Try.prog) (w.alloc (.cells (pkA n (.slice none 0 0)) 124)).drew 0 113 113 124 i124 z124 37 64 Try.underlying113 hi hz hsize hby hzs (by decide) lv1 L1.length _ (hown.alloc _) ⟨w.heap.size, 0, none⟩ 1 1 (pkL n (.slice none 0 0)) (by rw [pkL_len hn])
    (fun j u hu => by rw [Addr.add_lit]; exact pkAt_new w n (.slice none 0 0) 124 j u hu) (fun u hu => by
      rcases List.mem_append.1 hu with h | h
      · exact nameL_one _ u h
      · simp at h; subst h; rfl) (by unfold maxLen; omega) (by omega) (Nat.zero_le _)
  exact ⟨v', w', h1, h2, h3, h5.imp id (fun h => ⟨_, h, by simp⟩)⟩

end Go.Proofs.Ytnckmaieghlpmaa
namespace Go.Proofs.Ytnckmaieghlpmaa
open Go.RowKit
set_option linter.unusedVariables false

/-- what Take returns, and leaves -/
def TakeRet (w : World) (M : Nat → Prop) (F : Nat) (many most : Int) (T : List PkT) (p : PartD) (e : Ending) (w' : World) : Prop :=
  ∃ u M', e = .returned (.tuple #[u, .bool (takeS many most T p).is, .int .u8 ((takeS many most T p).drop : Int)]) ∧ Own w' w.heap.size u (takeS many most T p).bs ∧ Tab w' M' F many most (takeS many most T p).T ∧ (∀ k, M' k → M k ∨ w.heap.size ≤ k) ∧ (∀ k, u.ownBlock = some k → ¬ M' k) ∧ Only M w w'

theorem call73 (args : Array Value) (w : World) : (callFunc 73 args).run Try.prog w = .ok (.enter 73 args) w := by go_simp
theorem may_fits {most : Int} {q : PartD} (h : mayB most q = true) (hm : most ≤ 9223372036854775807) : Fits q ∧ PosOk q := by
  have := may_spec h
  have h1 := PartD.pos_lt h
  exact ⟨⟨by omega, by omega⟩, by omega, by omega⟩

section
variable {w : World} {M : Nat → Prop} {F : Nat} {many most : Int} {T : List PkT} {p : PartD} {v : Value} {gf gp ga : Nat} {wx : World} {lv' : Value} {L' : List PkM} {i : Nat} {x : PkM}

theorem J2.below (h : J2 w M F many most T p v gf gp ga wx lv' L' i x) {wy : World} (hb : Below wx.heap.size wx wy) : J2 w M F many most T p v gf gp ga wy lv' L' i x := by
  have ht := h.tab.below hb
  have hs := hb.size
  refine ⟨ht.mono (fun k hk => hk.imp id (fun h => ⟨h.1, by omega⟩)) (fun k hk => ?_), h.at_, h.nm, h.step, h.pre, h.rest, h.b1.below hb, below_cells hb _ _ h.ca, ⟨h.ord.1, by have := h.ord.2; omega⟩, h.base, h.only.then hb, h.sub, h.len⟩
  rcases hk with hk | hk
  · exact ht.sub k (.inl hk)
  · exact hk.2
theorem J2.noM (h : J2 w M F many most T p v gf gp ga wx lv' L' i x) (wy : World) : ¬ Mx M ga wy gf ∧ ¬ Mx M ga wy gp ∧ ¬ Mx M ga wy ga := by
  have h1 := h.base
  have h2 := h.ord
  have h3 := h.b1.ord
  refine ⟨?_, ?_, ?_⟩
  all_goals
    rintro (e | e)
    · have := h.sub _ e; omega
    · omega
theorem own_some {w : World} {base : Nat} {e : TypeId} {size : Nat} {v : Value} {n : Nat} {xs : List Value} (h : w.ownsRow base e size v n xs) (hn : n ≠ 0) : ∃ g c, v = .slice (some ⟨g, 0, none⟩) n c ∧ n ≤ c ∧ c ≤ 9223372036854775807 := by
  rcases h.2 with ⟨_, e⟩ | ⟨g, cap, cur, hv, _, _, h1, h2, _⟩
  · exact absurd e hn
  · exact ⟨g, cap, hv, h1, by unfold maxLen at h2; omega⟩
theorem J2.shape (h : J2 w M F many most T p v gf gp ga wx lv' L' i x) : ∃ gl c, lv' = .slice (some ⟨gl, 0, none⟩) L'.length c ∧ L'.length ≤ c ∧ c ≤ 9223372036854775807 ∧ i < L'.length := by
  have hi := (List.getElem?_eq_some_iff.1 h.at_).1
  obtain ⟨g, c, e, h1, h2⟩ := own_some h.tab.own (by omega)
  exact ⟨g, c, e, h1, h2, hi⟩
theorem oks_of (hp : PreT many most (L'.map PkM.T)) : ∀ y ∈ L', y.nm.ok ∧ ∀ z ∈ y.ps, z.1.nm.ok ∧ mayB most z.1 = true := fun y hy => by
  have h := hp.ok y.T (List.mem_map_of_mem hy)
  refine ⟨h.fit.1, fun z hz => ?_⟩
  have hz1 : z.1 ∈ y.T.2 := List.mem_map_of_mem hz
  refine ⟨?_, h.may z.1 hz1⟩
  rw [h.nm z.1 hz1]; exact h.fit.1
theorem tab_cell {M' : Nat → Prop} {gl n c : Nat} (h : TabL wx M' F many most lv' L') (hlv : lv' = .slice (some ⟨gl, 0, none⟩) n c) (hok : ∀ y ∈ L', y.nm.ok) (hx : L'[i]? = some x) : wx.cell? ⟨gl, i * 37 + 36, none⟩ = some x.v ∧ wx.frozen? ⟨gl, i * 37 + 36, none⟩ = false := by
  obtain ⟨a, c', he, _, _⟩ := ownsRow_shape h.own
  rw [hlv] at he
  cases he
  have hown := h.own
  rw [hlv] at hown
  have hi := (List.getElem?_eq_some_iff.1 hx).1
  have hfl := flat_at (fun y : NameD × Value => pkL y.1 y.2) 37 (L'.map PkM.row) (fun y hy => by
    obtain ⟨z, hz, rfl⟩ := List.mem_map.1 hy
    exact pkL_len (hok z hz) _) i 36 (x.nm, x.v) (by rw [List.getElem?_map, hx]; rfl) (by omega)
  refine ⟨?_, World.ownsRow.frozenAt hown _⟩
  rw [World.ownsRow.cellAt hown (i * 37 + 36) (by have : (i + 1) * 37 ≤ L'.length * 37 := Nat.mul_le_mul_right 37 hi; rw [Nat.succ_mul] at this; omega)]
  have := hfl
  unfold pkRow
  rw [this, pkL_at (hok x (List.mem_of_getElem? hx))]

theorem ps_row {M' : Nat → Prop} (h : TabL wx M' F many most lv' L') (hx : x ∈ L') (hok : ∀ z ∈ x.ps, z.1.nm.ok) : ∃ a c, x.v = .slice a x.ps.length c ∧ x.ps.length ≤ c ∧ c ≤ 9223372036854775807 ∧ PsAt wx a x.ps := by
  obtain ⟨a, c, e, h1, h2, h3⟩ := ps_of_own hok (h.rows x hx).1
  exact ⟨a, c, e, h1, by unfold maxLen at h2; omega, h3⟩
theorem same_call (h : J2 w M F many most T p v gf gp ga wx lv' L' i x) (hp : p.nm.ok) (hv : Bs wx v p.bs) : ∃ a c, x.v = .slice a x.ps.length c ∧ x.ps.length ≤ c ∧ c ≤ 9223372036854775807 ∧
    Calls Try.prog 70 #[.slice a x.ps.length c, .func (.func 71) #[] #[.pointer (some ⟨gp, 0, none⟩)]] wx (ClRet wx ((x.ps.map (·.1)).any (sameB p))) := by
  have hxm := List.mem_of_getElem? h.at_
  have hok := oks_of h.pre x hxm
  obtain ⟨a, c, e, h1, h2, h3⟩ := ps_row h.tab hxm (fun z hz => (hok.2 z hz).1)
  refine ⟨a, c, e, h1, h2, ?_⟩
  have := hasparts_any wx 71 call71 (.pointer (some ⟨gp, 0, none⟩)) a c x.ps (fun y => sameB p y.1) h1 h2 h3 (fun z hz => (hok.2 z hz).1)
    (fun z hz wr hb => take3_any wr gp p z.1 v z.2 hp (hok.2 z hz).1 (hv.below hb) ((h.tab.bs x hxm z hz).1.bs.below hb) (h.b1.cp.below hb))
  rwa [List.any_map]
theorem clash_call (h : J2 w M F many most T p v gf gp ga wx lv' L' i x) (hp : p.nm.ok) (hv : Bs wx v p.bs) (hmay : mayB most p = true) (hm : most ≤ 9223372036854775807) : ∃ a c, x.v = .slice a x.ps.length c ∧ x.ps.length ≤ c ∧ c ≤ 9223372036854775807 ∧
    Calls Try.prog 70 #[.slice a x.ps.length c, .func (.func 73) #[] #[.pointer (some ⟨gp, 0, none⟩)]] wx (ClRet wx ((x.ps.map (·.1)).any (clashB p))) := by
  have hxm := List.mem_of_getElem? h.at_
  have hok := oks_of h.pre x hxm
  obtain ⟨a, c, e, h1, h2, h3⟩ := ps_row h.tab hxm (fun z hz => (hok.2 z hz).1)
  refine ⟨a, c, e, h1, h2, ?_⟩
  have := hasparts_any wx 73 call73 (.pointer (some ⟨gp, 0, none⟩)) a c x.ps (fun y => clashB p y.1) h1 h2 h3 (fun z hz => (hok.2 z hz).1)
    (fun z hz wr hb => take4_any wr gp p z.1 v z.2 hp (hok.2 z hz).1 (hv.below hb) ((h.tab.bs x hxm z hz).1.bs.below hb) (may_fits hmay hm).1 (may_fits (hok.2 z hz).2 hm).1 (h.b1.cp.below hb))
  rwa [List.any_map]
theorem mx_old {g : Nat} (hg : w.heap.size ≤ g) : ∀ k, Mx M g wx k → M k ∨ w.heap.size ≤ k := fun k hk => hk.imp id (fun h => by omega)
theorem mx_only {g : Nat} {wy : World} (h : Only M w wx) (hg : w.heap.size ≤ g) (ho : Only (Mx M g wx) wx wy) : Only M w wy := h.trans ho (fun k hk hm => hm.elim id (fun h => by omega))

theorem j2_same (h : J2 w M F many most T p v gf gp ga wx lv' L' i x) (hs : (x.ps.map (·.1)).any (sameB p) = true) {e : Ending} (he : e = .returned (.tuple #[.slice none 0 0, .bool false, .int .u8 7])) : TakeRet w M F many most T p e wx := by
  have hst := h.step
  unfold stepIn at hst
  rw [if_pos hs] at hst
  unfold TakeRet
  rw [hst]
  exact ⟨.slice none 0 0, Mx M ga wx, he, own_nil _ _, ⟨lv', L', h.tab, rfl⟩, mx_old (by have := h.base; have := h.b1.ord; have := h.ord; omega), (fun k hk => by cases hk), h.only⟩

/-- behind the call that takes the packet out -/
theorem goes_call {M' : Nat → Prop} (ht : TabL wx M' F many most lv' L') (hcf : wx.cell? ⟨gf, 0, none⟩ = some (.pointer (some ⟨F, 0, none⟩))) (hca : wx.cell? ⟨ga, 0, none⟩ = some (.int .i64 i)) (n1 : ¬ M' gf) (n2 : ¬ M' ga) (hi : i < L'.length) (hl : L'.length ≤ 4294967296) :
    Calls Try.prog 68 #[.pointer (some ⟨gf, 0, none⟩), .pointer (some ⟨ga, 0, none⟩)] wx fun e w' => e = .returned (.tuple #[]) ∧ GoneRet wx 0 F (L'.length - 1) lv' ((pkRow (L'.map PkM.row)).take (i * 37) ++ (pkRow (L'.map PkM.row)).drop (i * 37 + 37)) w' := by
  refine goes_any wx 0 gf ga F L'.length i lv' _ hcf hca ht.cells.2.2.1 ht.cells.2.2.2 ht.own hi hl (pkRow_one _ (fun y hy => by obtain ⟨z, hz, rfl⟩ := List.mem_map.1 hy; exact own_one (ht.rows z hz).1)) ?_ ?_ ?_ ?_ ?_
  · intro e; exact n1 (ht.inl gf e.symm)
  · intro e; exact n2 (ht.inl ga e.symm)
  · intro e; exact ht.noF e.symm rfl
  · intro e; exact n1 (e ▸ ht.inF)
  · intro e; exact n2 (e ▸ ht.inF)
theorem j2_clash (h : J2 w M F many most T p v gf gp ga wx lv' L' i x) (hs : (x.ps.map (·.1)).any (sameB p) = false) (hc : (x.ps.map (·.1)).any (clashB p) = true) {wy : World} (hg : GoneRet wx 0 F (L'.length - 1) lv' ((pkRow (L'.map PkM.row)).take (i * 37) ++ (pkRow (L'.map PkM.row)).drop (i * 37 + 37)) wy)
    {e : Ending} (he : e = .returned (.tuple #[.slice none 0 0, .bool false, .int .u8 8])) : TakeRet w M F many most T p e wy := by
  have hst := h.step
  unfold stepIn at hst
  rw [if_neg (by rw [hs]; simp), if_pos hc] at hst
  obtain ⟨lv2, ht, ho⟩ := gone_tab h.tab (List.getElem?_eq_some_iff.1 h.at_).1 (fun y hy => (oks_of h.pre y hy).1) hg
  have hga : w.heap.size ≤ ga := by have := h.base; have := h.b1.ord; have := h.ord; omega
  unfold TakeRet
  rw [hst]
  exact ⟨.slice none 0 0, Mx M ga wx, he, own_nil _ _, ⟨lv2, _, ht, (map_erase _ _ _).symm⟩, mx_old hga, (fun k hk => by cases hk), mx_only h.only hga ho⟩

/-- the part's bytes are the table's own now -/
theorem J2.setB (h : J2 w M F many most T p v gf gp ga wx lv' L' i x) (hp : p.nm.ok) (v2 : Value) : J2 w M F many most T p v2 gf gp ga (wx.setCell ⟨gp, 38, none⟩ v2) lv' L' i x := by
  have h1 := h.base
  have h2 := h.ord
  have h3 := h.b1.ord
  obtain ⟨n1, n2, n3⟩ := h.noM wx
  have ho : Only (fun k => k = gp) wx (wx.setCell ⟨gp, 38, none⟩ v2) := Only.setCell (M := fun k => k = gp) (Only.refl _ _) (p := ⟨gp, 38, none⟩) rfl _
  have ht := h.tab.only ho (fun k hk e => n2 (e ▸ hk))
  refine ⟨ht.mono (fun k hk => hk.imp id (fun h => ⟨h.1, by simp; exact h.2⟩)) (fun k hk => ?_), h.at_, h.nm, h.step, h.pre, h.rest, ⟨ho.cell h.b1.cf (by show ¬ gf = gp; omega), ?_, by rw [World.frozen?_setCell]; exact h.b1.fp, h3.1, by simp; omega⟩, ho.cell h.ca (by show ¬ ga = gp; omega), ⟨h2.1, by simp; omega⟩, h.base, h.only.setNew (by show w.heap.size ≤ gp; omega) _, h.sub, h.len⟩
  · rcases hk with hk | hk
    · exact ht.sub k (.inl hk)
    · exact hk.2
  · intro j u hu
    rw [Nat.zero_add]
    have hlen := partL_len hp v2
    by_cases hj : j = 38
    · subst hj
      rw [(partL_at hp v2).2.2] at hu
      cases hu
      exact World.cell?_setCell_same _ _ _ (by have := (h.b1.cp.cells hp).2.2; rwa [Nat.zero_add] at this)
    · rw [World.cell?_setCell_other _ _ _ _ (by simp <;> omega)]
      have := h.b1.cp j u (by
        rw [← hu]
        have hj2 := (List.getElem?_eq_some_iff.1 hu).1
        unfold partL
        rcases Nat.lt_or_ge j (nameL p.nm).length with hlt | hge
        · rw [List.getElem?_append_left hlt, List.getElem?_append_left hlt]
        · rw [List.getElem?_append_right hge, List.getElem?_append_right hge]
          have hnl := nameL_len hp
          rw [hlen] at hj2
          rcases (show j = 36 ∨ j = 37 by omega) with rfl | rfl
          · rw [hnl]; rfl
          · rw [hnl]; rfl)
      rwa [Nat.zero_add] at this
end
end Go.Proofs.Ytnckmaieghlpmaa
namespace Go.Proofs.Ytnckmaieghlpmaa
open Go.RowKit
set_option linter.unusedVariables false

/-- the numbers a table stays below -/
def SmT (T : List PkT) : Prop := T.length ≤ 1048576 ∧ ∀ k ∈ T, k.2.length ≤ 1048576 ∧ ∀ q ∈ k.2, q.bs.length ≤ 1048576

section
variable {w : World} {M : Nat → Prop} {F : Nat} {many most : Int} {T : List PkT} {p : PartD} {v : Value} {gf gp ga : Nat} {wx : World} {lv' : Value} {L' : List PkM} {i : Nat} {x : PkM}

theorem bs_call (h : J2 w M F many most T p v gf gp ga wx lv' L' i x) (hp : p.nm.ok) (hmay : mayB most p = true) (hm : most ≤ 9223372036854775807) (hsm : x.ps.length ≤ 1048576) : ∃ a c, x.v = .slice a x.ps.length c ∧ x.ps.length ≤ c ∧ c ≤ 9223372036854775807 ∧
    Calls Try.prog 75 #[.slice a x.ps.length c, .agg (partA p v), .func (.func 76) #[] #[]] wx fun e w' => (∃ r, e = .returned (.tuple #[.int .i64 (bsI p.pos x.ps : Nat), .bool r])) ∧ Below wx.heap.size wx w' := by
  have hxm := List.mem_of_getElem? h.at_
  have hok := oks_of h.pre x hxm
  obtain ⟨a, c, e, h1, h2, h3⟩ := ps_row h.tab hxm (fun z hz => (hok.2 z hz).1)
  have hpk := h.pre.ok x.T (List.mem_map_of_mem hxm)
  have hso := ahead_sorted hpk.may hpk.apart
  refine ⟨a, c, e, h1, h2, bs_any wx a c x.ps p v h1 (by omega) h2 h3 (fun z hz => (hok.2 z hz).1) (fun z hz => (may_fits (hok.2 z hz).2 hm).2) hp (may_fits hmay hm).2 (fun j k y z hy hz hjk => ?_)⟩
  obtain ⟨hj, rfl⟩ := List.getElem?_eq_some_iff.1 hy
  obtain ⟨hk, rfl⟩ := List.getElem?_eq_some_iff.1 hz
  rcases Nat.lt_or_ge j k with hlt | hge
  · have := List.pairwise_iff_getElem.1 hso j k (by simpa [PkM.T] using hj) (by simpa [PkM.T] using hk) hlt
    simpa [PkM.T] using this
  · have : j = k := by omega
    subst this; exact Int.le_refl _

/-- the part is in -/
structure J3 (w : World) (M : Nat → Prop) (F : Nat) (many most : Int) (T : List PkT) (p : PartD) (gf ga : Nat) (wx : World) (lv' : Value) (L' : List PkM) (i : Nat) (v' : Value) (qs : List (PartD × Value)) : Prop where
  tab : TabL wx (Mx M ga wx) F many most lv' L'
  at_ : L'[i]? = some ⟨p.nm, v', qs⟩
  ok : ∀ y ∈ L', y.nm.ok ∧ ∀ z ∈ y.ps, z.1.nm.ok ∧ mayB most z.1 = true
  step : takeS many most T p = if wholeB (qs.map (·.1)) = true then ⟨(L'.map PkM.T).eraseIdx i, joinB (qs.map (·.1)), true, 0⟩ else ⟨L'.map PkM.T, [], false, 7⟩
  ne : qs ≠ []
  cf : wx.cell? ⟨gf, 0, none⟩ = some (.pointer (some ⟨F, 0, none⟩))
  ca : wx.cell? ⟨ga, 0, none⟩ = some (.int .i64 i)
  ord : gf < ga ∧ ga < wx.heap.size
  base : w.heap.size ≤ gf
  only : Only M w wx
  sub : ∀ k, M k → k < w.heap.size
  len : L'.length ≤ T.length + 1
  qlen : qs.length ≤ 1048577 ∧ ∀ z ∈ qs, z.1.bs.length ≤ 1048576

theorem map_take_drop (p : PartD) (v : Value) (ps : List (PartD × Value)) : (ps.take (bsI p.pos ps) ++ (p, v) :: ps.drop (bsI p.pos ps)).map (·.1) = insPt p (ps.map (·.1)) := by
  have e : insI p.pos (ps.map (·.1)) = bsI p.pos ps := by
    unfold insI bsI
    rw [List.findIdx_map]; rfl
  unfold insPt
  rw [e, List.map_append, List.map_cons, List.map_take, List.map_drop]
theorem erase_set {α : Type} (L : List α) (i : Nat) (y : α) : (L.set i y).eraseIdx i = L.eraseIdx i := by
  simp only [List.eraseIdx_eq_take_drop_succ]
  congr 1
  · rw [List.take_set_of_le (Nat.le_refl _)]
  · rw [List.drop_set_of_lt (Nat.lt_succ_self _)]

theorem j3_new (h : J2 w M F many most T p v gf gp ga wx lv' L' i x) (hs : (x.ps.map (·.1)).any (sameB p) = false) (hc : (x.ps.map (·.1)).any (clashB p) = false) (hp : p.nm.ok) (hmay : mayB most p = true) (hown : Own wx 0 v p.bs) (hvM : ∀ k, v.ownBlock = some k → Mx M ga wx k) (hsm : SmT T) (hpl : p.bs.length ≤ 1048576)
    {gl n c : Nat} (hlv : lv' = .slice (some ⟨gl, 0, none⟩) n c) {o : Obj} {v' : Value} {w1 : World} (hins : InsRet (wx.alloc o).drew 0 x.v (x.ps.length + 1) ((ptRow x.ps).take (bsI p.pos x.ps * 39) ++ partL p v ++ (ptRow x.ps).drop (bsI p.pos x.ps * 39)) (.returned v') w1) :
    J3 w M F many most T p gf ga (w1.setCell ⟨gl, i * 37 + 36, none⟩ v') lv' (L'.set i ⟨p.nm, v', x.ps.take (bsI p.pos x.ps) ++ (p, v) :: x.ps.drop (bsI p.pos x.ps)⟩) i v' (x.ps.take (bsI p.pos x.ps) ++ (p, v) :: x.ps.drop (bsI p.pos x.ps)) := by
  obtain ⟨v'', he, how, hgr, hob⟩ := hins
  cases he
  have hxm := List.mem_of_getElem? h.at_
  have hil := (List.getElem?_eq_some_iff.1 h.at_).1
  have hok := oks_of h.pre
  have hbl := (below_alloc wx o).trans ((drew_below (wx.alloc o)).mono (by simp))
  have hle : bsI p.pos x.ps ≤ x.ps.length := List.findIdx_le_length
  obtain ⟨qs, hqs⟩ : ∃ qs, qs = x.ps.take (bsI p.pos x.ps) ++ (p, v) :: x.ps.drop (bsI p.pos x.ps) := ⟨_, rfl⟩
  have hql : qs.length = x.ps.length + 1 := by rw [hqs]; simp; omega
  have hqm : ∀ y ∈ qs, y = (p, v) ∨ y ∈ x.ps := fun y hy => by
    rw [hqs] at hy
    rcases List.mem_append.1 hy with hy | hy
    · exact .inr (List.mem_of_mem_take hy)
    · rcases List.mem_cons.1 hy with hy | hy
      · exact .inl hy
      · exact .inr (List.mem_of_mem_drop hy)
  have hqt : qs.map (·.1) = insPt p (x.ps.map (·.1)) := by rw [hqs]; exact map_take_drop p v x.ps
  rw [ptRow_ins x.ps (fun z hz => ((hok x hxm).2 z hz).1) _ (p, v), ← hqs, ← hql] at how
  rw [← hqs]
  have hv' : v'.ownBlock ≠ none := by
    obtain ⟨g, cc, e, _⟩ := own_some how (by omega)
    rw [e]; simp [Value.ownBlock]
  obtain ⟨ht, ho⟩ := ins_tab (h.tab.below hbl) (fun y hy => (hok y hy).1) h.at_ hlv (q := (p, v)) how hgr hob hqm (Own.below (w := wx) (ownsRow_base hown (fun k _ => Nat.zero_le k)) hbl) hvM hv' h.rest
  rw [h.nm] at ht
  have hga : w.heap.size ≤ ga := by have := h.base; have := h.b1.ord; have := h.ord; omega
  have hsz : wx.heap.size ≤ (w1.setCell ⟨gl, i * 37 + 36, none⟩ v').heap.size := by
    have := ho.size
    have := hbl.size
    omega
  obtain ⟨m1, m2, m3⟩ := h.noM wx
  refine ⟨ht.mono (fun k hk => ?_) (fun k hk => ?_), ?_, fun y hy => ?_, ?_, ?_, ho.cell (below_cells hbl _ _ h.b1.cf) m1, ho.cell (below_cells hbl _ _ h.ca) m3, ⟨by have := h.b1.ord; have := h.ord; omega, by have := h.ord.2; omega⟩, h.base, mx_only (h.only.then hbl) hga (ho.mono (fun k _ hk => hk.imp id (fun h => ⟨h.1, by have := hbl.size; omega⟩))), h.sub, ?_, ?_⟩
  · rcases hk with (hk | hk) | hk
    · exact .inl hk
    · exact .inr ⟨hk.1, by omega⟩
    · refine .inr ⟨?_, by simp; exact hk.2⟩
      have h1 := h.ord.2
      have h2 := hk.1
      simp at h2; omega
  · rcases hk with hk | hk
    · exact ht.sub k (.inl (.inl hk))
    · exact hk.2
  · rw [List.getElem?_set]; simp [hil]
  · rcases List.mem_or_eq_of_mem_set hy with hy | rfl
    · exact hok y hy
    · refine ⟨hp, fun z hz => ?_⟩
      rcases hqm z hz with rfl | hz
      · exact ⟨hp, hmay⟩
      · exact (hok x hxm).2 z hz
  · rw [h.step]
    unfold stepIn
    rw [if_neg (by rw [hs]; simp), if_neg (by rw [hc]; simp), ← hqt]
    have e1 : (L'.set i ⟨p.nm, v', qs⟩).map PkM.T = (L'.map PkM.T).set i (p.nm, qs.map (·.1)) := by rw [List.map_set]; rfl
    rw [e1, erase_set]
  · intro e; rw [e] at hql; simp at hql
  · rw [List.length_set]; exact h.len.1
  · have hx := h.len.2 x hxm
    have hx1 : x.ps.length ≤ 1048576 ∧ ∀ z ∈ x.ps, z.1.bs.length ≤ 1048576 := by
      rcases hx with hx | hx
      · rw [hx]; exact ⟨by simp, fun z hz => by cases hz⟩
      · have := hsm.2 x.T hx
        refine ⟨by simpa [PkM.T] using this.1, fun z hz => this.2 z.1 (List.mem_map_of_mem hz)⟩
    refine ⟨by omega, fun z hz => ?_⟩
    rcases hqm z hz with rfl | hz
    · exact hpl
    · exact hx1.2 z hz
end
section
variable {w : World} {M : Nat → Prop} {F : Nat} {many most : Int} {T : List PkT} {p : PartD} {gf ga : Nat} {wx : World} {lv' : Value} {L' : List PkM} {i : Nat} {v' : Value} {qs : List (PartD × Value)}
theorem J3.below (h : J3 w M F many most T p gf ga wx lv' L' i v' qs) {wy : World} (hb : Below wx.heap.size wx wy) : J3 w M F many most T p gf ga wy lv' L' i v' qs := by
  have ht := h.tab.below hb
  have hs := hb.size
  refine ⟨ht.mono (fun k hk => hk.imp id (fun h => ⟨h.1, by omega⟩)) (fun k hk => ?_), h.at_, h.ok, h.step, h.ne, below_cells hb _ _ h.cf, below_cells hb _ _ h.ca, ⟨h.ord.1, by have := h.ord.2; omega⟩, h.base, h.only.then hb, h.sub, h.len, h.qlen⟩
  rcases hk with hk | hk
  · exact ht.sub k (.inl hk)
  · exact hk.2
theorem J3.noM (h : J3 w M F many most T p gf ga wx lv' L' i v' qs) (wy : World) : ¬ Mx M ga wy gf ∧ ¬ Mx M ga wy ga := by
  have h1 := h.base
  have h2 := h.ord
  refine ⟨?_, ?_⟩
  all_goals
    rintro (e | e)
    · have := h.sub _ e; omega
    · omega
theorem j3_part (h : J3 w M F many most T p gf ga wx lv' L' i v' qs) (hw : wholeB (qs.map (·.1)) = false) {e : Ending} (he : e = .returned (.tuple #[.slice none 0 0, .bool false, .int .u8 7])) {wy : World} (hb : Below wx.heap.size wx wy) : TakeRet w M F many most T p e wy := by
  have h := h.below hb
  have hst := h.step
  rw [if_neg (by rw [hw]; simp)] at hst
  unfold TakeRet
  rw [hst]
  exact ⟨.slice none 0 0, Mx M ga wy, he, own_nil _ _, ⟨lv', L', h.tab, rfl⟩, mx_old (by have := h.base; have := h.ord; omega), (fun k hk => by cases hk), h.only⟩
/-- the packet is whole: told, and gone -/
theorem j3_whole (h : J3 w M F many most T p gf ga wx lv' L' i v' qs) (hw : wholeB (qs.map (·.1)) = true) {wy wz : World} (hb : Below wx.heap.size wx wy) {u : Value} (hu : Own wy wx.heap.size u (joinB (qs.map (·.1)))) (hg : GoneRet wy 0 F (L'.length - 1) lv' ((pkRow (L'.map PkM.row)).take (i * 37) ++ (pkRow (L'.map PkM.row)).drop (i * 37 + 37)) wz)
    {e : Ending} (he : e = .returned (.tuple #[u, .bool true, .int .u8 0])) : TakeRet w M F many most T p e wz := by
  have hst := h.step
  rw [if_pos hw] at hst
  have hty : TabL wy (Mx M ga wx) F many most lv' L' := h.tab.below hb
  obtain ⟨lv2, ht, ho⟩ := gone_tab hty (List.getElem?_eq_some_iff.1 h.at_).1 (fun y hy => (h.ok y hy).1) hg
  have hga : w.heap.size ≤ ga := by have := h.base; have := h.ord; omega
  have hub : ∀ k, u.ownBlock = some k → ¬ Mx M ga wx k := fun k hk hm => by
    have h1 := (World.ownsRow.lt hu k hk).1
    have := h.tab.sub k hm
    omega
  unfold TakeRet
  rw [hst]
  refine ⟨u, Mx M ga wx, he, ?_, ⟨lv2, _, ht, (map_erase _ _ _).symm⟩, mx_old hga, hub, (h.only.then hb).trans ho (fun k hk hm => hm.elim id (fun h => by omega))⟩
  refine Own.mono ?_ h.only.size
  refine ownsRow_keep hu (fun k hk => ho.block k (World.ownsRow.lt hu k hk).2 (hub k hk))

/-- the parts of the packet in their row -/
theorem J3.row (h : J3 w M F many most T p gf ga wx lv' L' i v' qs) : ∃ gq c, v' = .slice (some ⟨gq, 0, none⟩) qs.length c ∧ qs.length ≤ c ∧ c ≤ 9223372036854775807 ∧ ∀ k z, qs[k]? = some z → PtAt wx gq (k * 39) z.1 z.2 := by
  have hxm := List.mem_of_getElem? h.at_
  have hok := h.ok _ hxm
  have hrow := (h.tab.rows _ hxm).1
  obtain ⟨gq, c, e, h1, h2⟩ := own_some hrow (by
    intro e0
    exact h.ne (List.eq_nil_of_length_eq_zero e0))
  obtain ⟨a, c', e', _, _, hat⟩ := ps_of_own (fun z hz => (hok.2 z hz).1) hrow
  refine ⟨gq, c, e, h1, h2, fun k z hz => ?_⟩
  have e : v' = _ := e
  have e' : v' = _ := e'
  rw [e] at e'
  cases e'
  rcases hat with hat | ⟨b, o, hbo, hat⟩
  · exact absurd hat h.ne
  · cases hbo
    have := hat k z hz
    rwa [Nat.zero_add] at this
theorem J3.bytes (h : J3 w M F many most T p gf ga wx lv' L' i v' qs) : ∀ z ∈ qs, Own wx 0 z.2 z.1.bs := fun z hz => (h.tab.bs _ (List.mem_of_getElem? h.at_) z hz).1
theorem J3.oks (h : J3 w M F many most T p gf ga wx lv' L' i v' qs) : ∀ z ∈ qs, z.1.nm.ok ∧ mayB most z.1 = true := fun z hz => (h.ok _ (List.mem_of_getElem? h.at_)).2 z hz
end

section
variable {w : World} {M : Nat → Prop} {F : Nat} {many most : Int} {T : List PkT} {p : PartD} {v : Value} {gf gp ga : Nat} {wx : World} {lv' : Value} {L' : List PkM} {i : Nat} {x : PkM}
theorem own_setB (h : J2 w M F many most T p v gf gp ga wx lv' L' i x) {wy : World} (hb : Below wx.heap.size wx wy) {v2 : Value} {bs : List UInt8} (ho : Own wy wx.heap.size v2 bs) {u : Value} :
    Own (wy.setCell ⟨gp, 38, none⟩ u) 0 v2 bs ∧ ∀ k, v2.ownBlock = some k → Mx M ga (wy.setCell ⟨gp, 38, none⟩ u) k := by
  have h2 := h.ord
  have hlt := fun k hk => World.ownsRow.lt ho k hk
  refine ⟨ownsRow_keep (ownsRow_base ho (fun k _ => Nat.zero_le k)) (fun k hk => heap_setCell_other _ _ _ _ ?_), fun k hk => .inr ⟨?_, ?_⟩⟩
  · show k ≠ gp
    have := hlt k hk; omega
  · have := hlt k hk; omega
  · have := hlt k hk; simp; omega
theorem j2_small (h : J2 w M F many most T p v gf gp ga wx lv' L' i x) (hsm : SmT T) : x.ps.length ≤ 1048576 := by
  have hx := h.len.2 x (List.mem_of_getElem? h.at_)
  rcases hx with hx | hx
  · rw [hx]; simp
  · have := (hsm.2 x.T hx).1
    simpa [PkM.T] using this
def S18 (gl i gp : Nat) (p : PartD) (xv v : Value) (w' : World) : Prop := w'.cell? ⟨gl, i * 37 + 36, none⟩ = some xv ∧ has w' gp 0 39 = true ∧ rd w' gp 0 39 = partA p v
theorem s18_below (h : J2 w M F many most T p v gf gp ga wx lv' L' i x) (hp : p.nm.ok) {gl : Nat} {xv : Value} (hc : wx.cell? ⟨gl, i * 37 + 36, none⟩ = some xv) {wy : World} (hb : Below wx.heap.size wx wy) : S18 gl i gp p xv v wy :=
  ⟨below_cells hb _ _ hc, (h.b1.cp.below hb).has hp, (h.b1.cp.below hb).rd hp⟩
theorem ins_call (h : J2 w M F many most T p v gf gp ga wx lv' L' i x) (hp : p.nm.ok) (hv : v.oneCell' = true) (hsm : x.ps.length ≤ 1048576) (bi : Nat) (hbi : bi ≤ x.ps.length) :
    Calls Try.prog 77 #[x.v, .int .i64 bi, .slice (some ⟨wx.heap.size, 0, none⟩) 1 1] (wx.alloc (.cells (partA p v) 90)).drew (InsRet (wx.alloc (.cells (partA p v) 90)).drew 0 x.v (x.ps.length + 1) ((ptRow x.ps).take (bi * 39) ++ partL p v ++ (ptRow x.ps).drop (bi * 39))) := by
  have hxm := List.mem_of_getElem? h.at_
  have hrow := (h.tab.rows x hxm).1
  refine insert_any _ 0 x.ps.length bi x.v (ptRow x.ps) (partL p v) wx.heap.size (Nat.zero_le _) (hrow.alloc _) hbi (by omega) (partL_len hp v) (heap_alloc_new wx _) ?_ (fun u hu => ?_) (ptRow_one _ (fun z hz => ?_))
  · intro e
    have := (World.ownsRow.lt hrow _ e).2; omega
  · have := partA_one (p := p) hv
    exact Array.all_eq_true_iff_forall_mem.1 this u (by simpa [partA] using hu)
  · exact own_one (h.tab.bs x hxm z hz).1
def S19 (gp : Nat) (p : PartD) (v : Value) (w' : World) : Prop := has w' gp 0 39 = true ∧ rd w' gp 0 39 = partA p v
theorem s19_below (h : J2 w M F many most T p v gf gp ga wx lv' L' i x) (hp : p.nm.ok) {wy : World} (hb : Below wx.heap.size wx wy) : S19 gp p v wy := ⟨(h.b1.cp.below hb).has hp, (h.b1.cp.below hb).rd hp⟩
theorem alloc_drew (w : World) (o : Obj) : Below w.heap.size w (w.alloc o).drew := (below_alloc w o).trans ((drew_below (w.alloc o)).mono (by simp))
theorem ins_grown (h : J2 w M F many most T p v gf gp ga wx lv' L' i x) (hp : p.nm.ok) {o : Obj} {w1 : World} (hg : (wx.alloc o).drew.grownBy w1 x.v.ownBlock) {gl n c : Nat} (hlv : lv' = .slice (some ⟨gl, 0, none⟩) n c) {u : Value} :
    S19 gp p v w1 ∧ S19 gp p v (w1.setCell ⟨gl, i * 37 + 36, none⟩ u) ∧ w1.cell? ⟨gl, i * 37 + 36, none⟩ = some x.v ∧ w1.frozen? ⟨gl, i * 37 + 36, none⟩ = false := by
  have hxm := List.mem_of_getElem? h.at_
  obtain ⟨m1, m2, m3⟩ := h.noM wx
  have hb := alloc_drew wx o
  have hgl : lv'.ownBlock = some gl := by rw [hlv]; rfl
  have hpt : PtAt w1 gp 0 p v := fun j z hz => hg.cell (h.b1.cp.below hb j z hz) (fun e => m2 ((h.tab.rows x hxm).2 gp e.symm))
  have hpt2 : PtAt (w1.setCell ⟨gl, i * 37 + 36, none⟩ u) gp 0 p v := fun j z hz => by
    rw [World.cell?_setCell_other w1 ⟨gl, i * 37 + 36, none⟩ _ _ (fun e => m2 (by
      have : gl = gp := congrArg Addr.block e
      rw [← this]; exact h.tab.inl gl hgl))]
    exact hpt j z hz
  obtain ⟨cur, hc⟩ := ownsRow_type h.tab.own hgl
  obtain ⟨t1, t2⟩ := tab_cell (h.tab.below hb) hlv (fun y hy => (oks_of h.pre y hy).1) h.at_
  have hne : some gl ≠ x.v.ownBlock := fun e => by
    obtain ⟨cur', hc'⟩ := ownsRow_type (h.tab.rows x hxm).1 e.symm
    exact type_apart hc hc' (by decide) rfl
  refine ⟨⟨hpt.has hp, hpt.rd hp⟩, ⟨hpt2.has hp, hpt2.rd hp⟩, hg.cell t1 hne, ?_⟩
  rw [World.frozen?_of_block (a := ⟨gl, i * 37 + 36, none⟩) (hg.block gl (by have := lt_of_block hc; simp; omega) hne)]
  exact t2
end

def J3e (w : World) (M : Nat → Prop) (F : Nat) (many most : Int) (T : List PkT) (p : PartD) (gf ga gl n c i : Nat) (wx : World) : Prop := ∃ L3 v3 qs, n = L3.length ∧ J3 w M F many most T p gf ga wx (.slice (some ⟨gl, 0, none⟩) n c) L3 i v3 qs

/-! a part in a box of its own -/
section
variable {w : World} {Z : Array Value} {p : PartD} {v : Value}
def bxW (w : World) (Z : Array Value) (p : PartD) (v : Value) : World := (w.alloc (.cells Z 90)).setCells w.heap.size 0 (partL p v)
theorem bx_at (hn : p.nm.ok) (hZ : Z.size = 39) : PtAt ((w.alloc (.cells Z 90)).setCells w.heap.size 0 (partL p v)) w.heap.size 0 p v :=
  World.rangeAt_setCells_same _ _ _ _ (free_spec.1 (by rw [partL_len hn, free_new1, hZ]; rfl))
theorem bx36 (hn : p.nm.ok) (hZ : Z.size = 39) : ((w.alloc (.cells Z 90)).setCells w.heap.size 0 (partL p v)).cell? ⟨w.heap.size, 36, none⟩ = some (.int .i64 p.pos) := by
  have := ((bx_at (w := w) (v := v) hn hZ).cells hn).1
  rwa [Nat.zero_add] at this
theorem bx37 (hn : p.nm.ok) (hZ : Z.size = 39) : ((w.alloc (.cells Z 90)).setCells w.heap.size 0 (partL p v)).cell? ⟨w.heap.size, 37, none⟩ = some (.bool p.more) := by
  have := ((bx_at (w := w) (v := v) hn hZ).cells hn).2.1
  rwa [Nat.zero_add] at this
theorem bx38 (hn : p.nm.ok) (hZ : Z.size = 39) : ((w.alloc (.cells Z 90)).setCells w.heap.size 0 (partL p v)).cell? ⟨w.heap.size, 38, none⟩ = some v := by
  have := ((bx_at (w := w) (v := v) hn hZ).cells hn).2.2
  rwa [Nat.zero_add] at this
theorem bxhas (hn : p.nm.ok) (hZ : Z.size = 39) : has ((w.alloc (.cells Z 90)).setCells w.heap.size 0 (partL p v)) w.heap.size 0 39 = true := (bx_at hn hZ).has hn
theorem bxrd (hn : p.nm.ok) (hZ : Z.size = 39) : rd ((w.alloc (.cells Z 90)).setCells w.heap.size 0 (partL p v)) w.heap.size 0 39 = partA p v := (bx_at hn hZ).rd hn
theorem bx_below : Below w.heap.size w ((w.alloc (.cells Z 90)).setCells w.heap.size 0 (partL p v)) := below_sets (Nat.le_refl _) _ _ (below_alloc w _)
end

theorem noGap_step {n : Int} {qs : List (PartD × Value)} {k : Nat} {q : PartD × Value} (hq : qs[k]? = some q) : noGap n ((qs.map (·.1)).drop k) = (decide (q.1.pos = n) && noGap q.1.fin ((qs.map (·.1)).drop (k + 1))) := by
  have hk := (List.getElem?_eq_some_iff.1 hq).1
  have : (qs.map (·.1)).drop k = q.1 :: (qs.map (·.1)).drop (k + 1) := by
    rw [List.drop_eq_getElem_cons (by simpa using hk)]
    congr 1
    rw [List.getElem_map]
    rw [List.getElem?_eq_getElem hk] at hq
    cases hq; rfl
  rw [this]; rfl
theorem joinB_step {qs : List (PartD × Value)} {k : Nat} {q : PartD × Value} (hq : qs[k]? = some q) : joinB ((qs.map (·.1)).take (k + 1)) = joinB ((qs.map (·.1)).take k) ++ q.1.bs := by
  have hk := (List.getElem?_eq_some_iff.1 hq).1
  rw [List.take_add_one]
  unfold joinB
  rw [List.flatMap_append]
  congr 1
  rw [List.getElem?_map, hq]
  simp
theorem joinB_len {qs : List (PartD × Value)} {k : Nat} (h : ∀ z ∈ qs, z.1.bs.length ≤ 1048576) : (joinB ((qs.map (·.1)).take k)).length ≤ 1048576 * qs.length := by
  have : ∀ (l : List PartD), (∀ z ∈ l, z.bs.length ≤ 1048576) → (joinB l).length ≤ 1048576 * l.length := fun l => by
    induction l with
    | nil => intro _; simp [joinB]
    | cons a l ih =>
      intro hl
      have h1 := hl a (by simp)
      have h2 := ih (fun z hz => hl z (by simp [hz]))
      unfold joinB at h2 ⊢
      rw [List.flatMap_cons, List.length_append, List.length_cons]
      omega
  have h1 := this ((qs.map (·.1)).take k) (fun z hz => by
    obtain ⟨y, hy, rfl⟩ := List.mem_map.1 (List.mem_of_mem_take hz)
    exact h y hy)
  have h2 : ((qs.map (·.1)).take k).length ≤ qs.length := by rw [List.length_take, List.length_map]; omega
  have := Nat.mul_le_mul_left 1048576 h2
  omega
theorem lastMore_at {qs : List (PartD × Value)} {m : Nat} {q : PartD × Value} (hm : qs.length = m + 1) (hq : qs[m]? = some q) : lastMore (qs.map (·.1)) = q.1.more := by
  unfold lastMore
  rw [List.getLast?_eq_getElem?, List.length_map, hm, Nat.add_sub_cancel, List.getElem?_map, hq]; rfl
end Go.Proofs.Ytnckmaieghlpmaa
