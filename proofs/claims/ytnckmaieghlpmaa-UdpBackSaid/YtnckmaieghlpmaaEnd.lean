/-
  Both ends of a datagram as values in memory: built, stored, read whole.
-/
import Derived.Test.YtnckmaieghlpmaaUput
import Derived.Deep.WholeRow
namespace Go.Proofs.Ytnckmaieghlpmaa
open Go.RowKit
set_option linter.unusedVariables false

theorem info61s : (Try.prog.info? 61).map (·.size) = some 18 := by kernel_rfl
theorem end_oneCell (six : Bool) (A : List UInt8) (p : Nat) : (endC six A p).all (·.oneCell') = true := by
  unfold endC
  exact all_oneCell_toArray (cs := Value.bool six :: (A.map byteV ++ [.int .u16 (p : Int)])) (fun v hv => by
    rcases List.mem_cons.1 hv with rfl | h
    · rfl
    · rcases List.mem_append.1 h with h | h
      · exact bytes_oneCell A v h
      · simp at h; subst h; rfl)

/-- an aggregate is built -/
theorem wpList_buildP {P : Program} (t : TypeId) (cells : Array Value) {ops : Array Oper} {rest : List Oper} {dst : Option Tmp} {parts : Array (Nat × Operand)} {ty : TypeId} {pos : String} {aft : Array Edge} {a : Act} {w : World} {Q : Exit → Act → World → Prop}
    (hb : P.built t (parts.toList.map fun p => (p.1, a.eval p.2)) = some cells)
    (h : wpList P ops Q rest (a.put dst (.agg cells)) w) : wpList P ops Q (⟨dst, .build t parts, ty, pos, aft, none⟩ :: rest) a w :=
  wpList_plain rfl fun K hK => by
    have hb' : P.built t (parts.map fun (i, x) => (i, a.eval x)).toList = some cells := by rw [Array.toList_map]; exact hb
    refine wp_build t parts rfl (by simp only [hb', Option.isSome_some]) ?_
    simp only [hb', Option.getD_some]
    exact hK _ _ h
theorem wpList_build (t : TypeId) (cells : Array Value) {ops : Array Oper} {rest : List Oper} {dst : Option Tmp} {parts : Array (Nat × Operand)} {ty : TypeId} {pos : String} {aft : Array Edge} {a : Act} {w : World} {Q : Exit → Act → World → Prop}
    (hb : Try.prog.built t (parts.toList.map fun p => (p.1, a.eval p.2)) = some cells)
    (h : wpList Try.prog ops Q rest (a.put dst (.agg cells)) w) : wpList Try.prog ops Q (⟨dst, .build t parts, ty, pos, aft, none⟩ :: rest) a w := wpList_buildP t cells hb h

/-- both ends lie in block g -/
def EndAt (w : World) (g : Nat) (s : Bool) (A : List UInt8) (p : Nat) : Prop := w.heap[g]? = some (.cells (endC s A p) 61 (0, 0))
theorem EndAt.below {w w' : World} {g : Nat} {s : Bool} {A : List UInt8} {p : Nat} (h : EndAt w g s A p) (hb : Below w.heap.size w w') : EndAt w' g s A p := (hb.block g (lt_of_block h)).trans h
theorem EndAt.keep {w w' : World} {B g : Nat} {s : Bool} {A : List UInt8} {p : Nat} (h : EndAt w g s A p) (hb : Below B w w') (hg : g < B) : EndAt w' g s A p := (hb.block g hg).trans h
theorem EndAt.adr {w : World} {g : Nat} {s : Bool} {A : List UInt8} {p : Nat} (h : EndAt w g s A p) : AdrAt w g 0 s A := end_adr h
theorem endAt_new (w : World) (s : Bool) (A : List UInt8) (p : Nat) : EndAt (w.alloc (.cells (endC s A p) 61)) w.heap.size s A p := heap_alloc_new _ _

theorem wpList_load61 (g : Nat) (s : Bool) (A : List UInt8) (p : Nat) {ops : Array Oper} {rest : List Oper} {dst : Option Tmp} {x : Tmp} {ty : TypeId} {pos : String} {aft : Array Edge} {a : Act} {w : World} {Q : Exit → Act → World → Prop}
    (hx : a.eval (.tmp x) = .pointer (some ⟨g, 0, none⟩)) (hg : EndAt w g s A p) (hA : A.length = 16)
    (h : wpList Try.prog ops Q rest (a.put dst (.agg (endC s A p))) w) : wpList Try.prog ops Q (⟨dst, .load 61 (.tmp x), ty, pos, aft, none⟩ :: rest) a w :=
  wpList_load_row rfl 61 (.tmp x) rfl g hx 61 _ (0, 0) _ hg Try.underlying61 rfl (by rw [info61s, end_size, hA]) h

theorem wpList_store61 (w0 : World) (g : Nat) (s : Bool) (A : List UInt8) (p : Nat) {old : Array Value} {ops : Array Oper} {rest : List Oper} {dst : Option Tmp} {x y : Tmp} {ty : TypeId} {pos : String} {aft : Array Edge} {a : Act} {Q : Exit → Act → World → Prop}
    (hx : a.eval (.tmp x) = .pointer (some ⟨g, 0, none⟩)) (hy : a.eval (.tmp y) = .agg (endC s A p)) (hg : g = w0.heap.size) (hold : old.size = 18) (hA : A.length = 16)
    (h : wpList Try.prog ops Q rest (a.put dst undef) (w0.alloc (.cells (endC s A p) 61))) : wpList Try.prog ops Q (⟨dst, .store 61 (.tmp x) (.tmp y), ty, pos, aft, none⟩ :: rest) a (w0.alloc (.cells old 61)) := by
  subst hg
  refine wpList_store_row rfl 61 (.tmp x) (.tmp y) rfl w0.heap.size 61 old (endC s A p) hx hy (heap_alloc_new _ _) (by rw [info61s, end_size, hA]) (by rw [hold, end_size, hA]) (end_oneCell s A p) ?_
  rw [World.setRow_alloc_new]
  exact h
end Go.Proofs.Ytnckmaieghlpmaa
