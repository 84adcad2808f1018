/-
  The walk of udp.ahead: what stands ahead of a datagram.
-/
import Derived.Test.YtnckmaieghlpmaaAdr
import Derived.Test.YtnckmaieghlpmaaPut
import Derived.Laws.CopyOwn
import Derived.StillTailTactics
namespace Go.Proofs.Ytnckmaieghlpmaa
open Go.RowKit
set_option linter.unusedVariables false

/-- what stands ahead of a datagram of n bytes -/
def aheadB (six : Bool) (A B : List UInt8) (n : Nat) : List UInt8 :=
  if six then A ++ B ++ ([0, 0] ++ numB false n 2 ++ [0, 0, 0, 17]) else A.take 4 ++ B.take 4 ++ ([0, 17] ++ numB false n 2)

theorem numB2 (n : Nat) : numB false n 2 = [UInt8.ofNat (n / 256 % 256), UInt8.ofNat (n % 256)] := by
  simp [numB, leB]
theorem splice_map {α β : Type} (f : α → β) (L cs : List α) (off : Nat) : splice (L.map f) off (cs.map f) = (splice L off cs).map f := by
  simp [splice, List.map_take, List.map_drop]

theorem row4 (A B : List UInt8) (n : Nat) (hA : A.length = 16) (hB : B.length = 16) :
    ((((splice (splice (List.replicate 40 (0 : UInt8)) 0 (A.take 4)) 4 (B.take 4)).set 9 17).set 10 (UInt8.ofNat (n / 256 % 256))).set 11 (UInt8.ofNat (n % 256))) = aheadB false A B n ++ List.replicate 28 0 := by
  have h4 : ∀ l : List UInt8, l.length = 16 → ∃ a b c d, l.take 4 = [a, b, c, d] := by
    intro l hl
    match l, hl with
    | a :: b :: c :: d :: r, _ => exact ⟨a, b, c, d, rfl⟩
  obtain ⟨a, b, c, d, e1⟩ := h4 A hA
  obtain ⟨a', b', c', d', e2⟩ := h4 B hB
  simp only [aheadB, Bool.false_eq_true, if_false, e1, e2, numB2]
  rfl
theorem set_app (X Y : List UInt8) (h : X.length = 32) (i : Nat) (v : UInt8) : (X ++ Y).set (32 + i) v = X ++ Y.set i v := by
  rw [List.set_append_right (32 + i) _ (by omega), h, Nat.add_sub_cancel_left]
theorem row6 (A B : List UInt8) (n : Nat) (hA : A.length = 16) (hB : B.length = 16) :
    ((((splice (splice (List.replicate 40 (0 : UInt8)) 0 A) 16 B).set 34 (UInt8.ofNat (n / 256 % 256))).set 35 (UInt8.ofNat (n % 256))).set 39 17) = aheadB true A B n := by
  have e1 : splice (List.replicate 40 (0 : UInt8)) 0 A = A ++ List.replicate 24 0 := by simp [splice, hA]
  have e2 : splice (A ++ List.replicate 24 (0 : UInt8)) 16 B = A ++ (B ++ List.replicate 8 0) := by
    unfold splice
    rw [List.take_append_of_le_length (by omega), List.take_of_length_le (by omega), hB, List.drop_append, hA]
    simp [hA]
  rw [e1, e2]
  simp only [aheadB, if_true, numB2]
  rw [← List.append_assoc, set_app _ _ (by simp [hA, hB]) 2, set_app _ _ (by simp [hA, hB]) 3, set_app _ _ (by simp [hA, hB]) 7]
  rfl

theorem info5s : (Try.prog.info? 5).map (·.size) = some 1 := by kernel_rfl
theorem info143s : (Try.prog.info? 143).map (·.size) = some 40 := by kernel_rfl
theorem info54s : (Try.prog.info? 54).map (·.size) = some 17 := by kernel_rfl

theorem wpList_store_row {P : Program} {ops : Array Oper} {rest : List Oper} {op : Oper} {a : Act} {w : World} {Q : Exit → Act → World → Prop} (hgd : op.guard = none) (ty : TypeId) (x y : Operand) (ho : op.op = .store ty x y)
    (g : Nat) (t : TypeId) (old cells : Array Value) (hx : a.eval x = .pointer (some ⟨g, 0, none⟩)) (hy : a.eval y = .agg cells)
    (hg : w.heap[g]? = some (.cells old t (0, 0))) (hi : (P.info? ty).map (·.size) = some cells.size) (hsz : old.size = cells.size) (h1 : cells.all (·.oneCell') = true)
    (h : wpList P ops Q rest (a.put op.dst undef) (w.setRow g cells)) : wpList P ops Q (op :: rest) a w :=
  wpList_plain hgd fun _ hK => by
    unfold Oper.wp execOp
    simp only [ho, hx, hy, Instr.storeAt, Instr.sureAddr, Sem.run_bind, Sem.run_pure, Result.andThen_ok, run_storeVar_row w g t ty old cells hg hi hsz h1]
    exact hK _ _ h

theorem bytes_oneCell (bs : List UInt8) : ∀ v ∈ bs.map byteV, v.oneCell' = true := fun v hv => by
  obtain ⟨x, _, rfl⟩ := List.mem_map.1 hv; rfl
theorem bytes_oneCellA (bs : List UInt8) : ((bs.map byteV).toArray).all (·.oneCell') = true := all_oneCell_toArray (bytes_oneCell bs)
theorem adr_oneCell (six : Bool) (A : List UInt8) : (adrC six A).all (·.oneCell') = true :=
  all_oneCell_toArray (cs := Value.bool six :: A.map byteV) (fun v hv => by
    rcases List.mem_cons.1 hv with rfl | h
    · rfl
    · exact bytes_oneCell A v h)

/-- the row of bytes that lies in block g -/
def RowAt (w : World) (g : Nat) (t : TypeId) (L : List UInt8) : Prop := w.heap[g]? = some (.cells (L.map byteV).toArray t (0, 0))
theorem RowAt.cell {w : World} {g : Nat} {t : TypeId} {L : List UInt8} (h : RowAt w g t L) (j : Nat) (x : UInt8) (hx : L[j]? = some x) : w.cell? ⟨g, j, none⟩ = some (.int .u8 (x.toNat : Int)) := by
  rw [cell_of_row w g j _ _ _ h]; simp [hx, byteV]
theorem RowAt.free {w : World} {g : Nat} {t : TypeId} {L : List UInt8} (h : RowAt w g t L) (j : Nat) : w.frozen? ⟨g, j, none⟩ = false := frozen_of_row w g j _ _ h
theorem RowAt.set {w : World} {g : Nat} {t : TypeId} {L : List UInt8} (h : RowAt w g t L) (j : Nat) (x : UInt8) : RowAt (w.setCell ⟨g, j, none⟩ (.int .u8 (x.toNat : Int))) g t (L.set j x) := by
  have := heap_setCell_same w g j _ t (.int .u8 (x.toNat : Int)) h
  unfold RowAt
  rw [this, List.map_set]
  congr 2
  apply Array.toList_inj.1
  simp [byteV]
theorem RowAt.below {w w' : World} {g : Nat} {t : TypeId} {L : List UInt8} (h : RowAt w g t L) (hb : Below w.heap.size w w') : RowAt w' g t L :=
  (hb.block g (lt_of_block h)).trans h
theorem rowAt_adr (w : World) (s : Bool) (A : List UInt8) (t : TypeId) : At (w.alloc (.cells (adrC s A) t)) (some ⟨w.heap.size, 1, none⟩) A :=
  .inr ⟨_, _, rfl, fun i x hx => by
    rw [World.cell?_alloc_mark, adrC, List.getElem?_toArray, Nat.add_comm 1 i, List.getElem?_cons_succ, List.getElem?_map, hx]; rfl⟩
theorem RowAt.load {w : World} {g : Nat} {L : List UInt8} (hg : RowAt w g 143 L) (hL : L.length = 40) : (loadVar 143 ⟨g, 0, none⟩).run Try.prog w = .ok (.agg (L.map byteV).toArray) w :=
  run_loadVar_row w g 143 143 _ (0, 0) (.array 40 5) hg Try.underlying143 rfl (by rw [info143s, List.size_toArray, List.length_map, hL])

/-- a whole array of 40 bytes is read -/
theorem wpList_load143 (g : Nat) (L : List UInt8) {ops : Array Oper} {rest : List Oper} {dst : Option Tmp} {x : Tmp} {ty : TypeId} {pos : String} {aft : Array Edge} {a : Act} {w : World} {Q : Exit → Act → World → Prop}
    (hx : a.eval (.tmp x) = .pointer (some ⟨g, 0, none⟩)) (hg : RowAt w g 143 L) (hL : L.length = 40)
    (h : wpList Try.prog ops Q rest (a.put dst (.agg (L.map byteV).toArray)) w) : wpList Try.prog ops Q (⟨dst, .load 143 (.tmp x), ty, pos, aft, none⟩ :: rest) a w :=
  wpList_load_row rfl 143 (.tmp x) rfl g hx 143 _ (0, 0) (.array 40 5) hg Try.underlying143 rfl (by rw [info143s, List.size_toArray, List.length_map, hL]) h

/-- .. and written -/
theorem wpList_store143 (g : Nat) (L L' : List UInt8) {ops : Array Oper} {rest : List Oper} {dst : Option Tmp} {x y : Tmp} {ty : TypeId} {pos : String} {aft : Array Edge} {a : Act} {w : World} {Q : Exit → Act → World → Prop}
    (hx : a.eval (.tmp x) = .pointer (some ⟨g, 0, none⟩)) (hy : a.eval (.tmp y) = .agg (L'.map byteV).toArray) (hg : RowAt w g 143 L) (hL : L.length = 40) (hL' : L'.length = 40)
    (h : ∀ w', RowAt w' g 143 L' → Below g w w' → w'.heap.size = w.heap.size → wpList Try.prog ops Q rest (a.put dst undef) w') : wpList Try.prog ops Q (⟨dst, .store 143 (.tmp x) (.tmp y), ty, pos, aft, none⟩ :: rest) a w :=
  wpList_store_row rfl 143 (.tmp x) (.tmp y) rfl g 143 _ _ hx hy hg (by rw [info143s, List.size_toArray, List.length_map, hL']) (by simp [hL, hL']) (bytes_oneCellA L')
    (h _ (setRow_heap w g _ _ 143 (0, 0) hg) (below_setRow (Below.refl _ _) (Nat.le_refl _) _) (by simp))
/-- .. as it is -/
theorem wpList_store143_self (g : Nat) (L : List UInt8) {ops : Array Oper} {rest : List Oper} {dst : Option Tmp} {x y : Tmp} {ty : TypeId} {pos : String} {aft : Array Edge} {a : Act} {w : World} {Q : Exit → Act → World → Prop}
    (hx : a.eval (.tmp x) = .pointer (some ⟨g, 0, none⟩)) (hy : a.eval (.tmp y) = .agg (L.map byteV).toArray) (hg : RowAt w g 143 L) (hL : L.length = 40)
    (h : wpList Try.prog ops Q rest (a.put dst undef) w) : wpList Try.prog ops Q (⟨dst, .store 143 (.tmp x) (.tmp y), ty, pos, aft, none⟩ :: rest) a w :=
  wpList_store_row rfl 143 (.tmp x) (.tmp y) rfl g 143 _ _ hx hy hg (by rw [info143s, List.size_toArray, List.length_map, hL]) rfl (bytes_oneCellA L)
    (by rw [setRow_self w g _ 143 (0, 0) hg]; exact h)

/-- an address lies in block g from o on -/
def AdrAt (w : World) (g o : Nat) (s : Bool) (A : List UInt8) : Prop := w.rangeAt g o (adrC s A).toList
theorem AdrAt.same {w w' : World} {g o : Nat} {s : Bool} {A : List UInt8} (h : AdrAt w g o s A) (hc : ∀ p v, w.cell? p = some v → w'.cell? p = some v) : AdrAt w' g o s A := fun j v hv => hc _ _ (h j v hv)
theorem AdrAt.below {w w' : World} {g o : Nat} {s : Bool} {A : List UInt8} (h : AdrAt w g o s A) (hb : Below w.heap.size w w') : AdrAt w' g o s A := h.same (below_cells hb)
theorem adrAt_new (w : World) (s : Bool) (A : List UInt8) (t : TypeId) : AdrAt (w.alloc (.cells (adrC s A) t)) w.heap.size 0 s A := fun j v hv => by
  rw [World.cell?_alloc_mark, Nat.zero_add, ← Array.getElem?_toList]; exact hv
theorem AdrAt.flag {w : World} {g o : Nat} {s : Bool} {A : List UInt8} (h : AdrAt w g o s A) : w.cell? ⟨g, o, none⟩ = some (.bool s) := h 0 _ rfl
theorem AdrAt.bytes {w : World} {g o : Nat} {s : Bool} {A : List UInt8} (h : AdrAt w g o s A) : At w (some ⟨g, o + 1, none⟩) A :=
  .inr ⟨_, _, rfl, fun i x hx => by
    have := h (i + 1) (byteV x) (by rw [adr_list, List.getElem?_cons_succ, List.getElem?_map, hx]; rfl)
    rw [show o + 1 + i = o + (i + 1) by omega]; exact this⟩
/-- an address is read -/
theorem wpList_load54 (g o : Nat) (s : Bool) (A : List UInt8) {ops : Array Oper} {rest : List Oper} {dst : Option Tmp} {x : Tmp} {ty : TypeId} {pos : String} {aft : Array Edge} {a : Act} {w : World} {Q : Exit → Act → World → Prop}
    (hx : a.eval (.tmp x) = .pointer (some ⟨g, o, none⟩)) (hg : AdrAt w g o s A) (hA : A.length = 16)
    (h : wpList Try.prog ops Q rest (a.put dst (.agg (adrC s A))) w) : wpList Try.prog ops Q (⟨dst, .load 54 (.tmp x), ty, pos, aft, none⟩ :: rest) a w :=
  wpList_load_mid rfl 54 (.tmp x) rfl g o hx _ _ hg Try.underlying54 rfl (by rw [info54s, Array.length_toList, adr_size, hA]) (by simpa using h)
/-- an address is read in a region that draws its order -/
theorem wpStill_load54 (g o : Nat) (s : Bool) (A : List UInt8) {ops : Array Oper} {rest : List Oper} {dst : Option Tmp} {x : Tmp} {ty : TypeId} {pos : String} {aft : Array Edge} {grd : Option (Tmp × Bool)} {a : Act} {w : World} {Q : Act → Prop}
    (hw : Region.wanted ⟨dst, .load 54 (.tmp x), ty, pos, aft, grd⟩ (yielded ops a.tmps) = true) (hx : a.eval (.tmp x) = .pointer (some ⟨g, o, none⟩)) (hg : AdrAt w g o s A) (hA : A.length = 16)
    (h : wpStill Try.prog ops w Q rest (a.put dst (.agg (adrC s A)))) : wpStill Try.prog ops w Q (⟨dst, .load 54 (.tmp x), ty, pos, aft, grd⟩ :: rest) a := by
  refine wpStill_step fun K hK => ?_
  rw [if_pos hw]
  have hr := run_loadVar_mid (P := Try.prog) w g o 54 _ _ hg Try.underlying54 rfl (by rw [info54s, Array.length_toList, adr_size, hA])
  unfold Oper.still execOp
  simp only [hx, Instr.loadAt, Instr.sureAddr, Sem.run_bind, Sem.run_pure, Result.andThen_ok, hr, Oper.stillUpon]
  exact ⟨trivial, hK _ (by simpa using h)⟩
/-- the first so many of a slice's bytes -/
theorem bs_take {w : World} {a : Option Addr} {n c N : Nat} {bs : List UInt8} (h : Bs w (.slice a n c) bs) (hN : N ≤ bs.length) : Bs w (.slice a N c) (bs.take N) := by
  obtain ⟨a', c', e, h1, h2, hat⟩ := h
  simp only [Value.slice.injEq] at e
  obtain ⟨rfl, rfl, rfl⟩ := e
  have hl : (bs.take N).length = N := by rw [List.length_take]; omega
  refine ⟨a, c, by rw [hl], by omega, h2, ?_⟩
  rcases hat with h | ⟨b, o, e, h⟩
  · left; rw [h]; simp
  · exact .inr ⟨b, o, e, fun i x hx => h i x (by rw [List.getElem?_take] at hx; split at hx; exact hx; cases hx)⟩
end Go.Proofs.Ytnckmaieghlpmaa
