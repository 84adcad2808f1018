/-
  A struct of many cells in memory, by whole values: laws that the walk's own steps take (a load, a store), without an arm.
-/
import Derived.Test.YtnckmaieghlpmaaAhead
namespace Go.Proofs.Ytnckmaieghlpmaa
open Go.RowKit
set_option linter.unusedVariables false

/-- n cells from a place on, as they are -/
def rd (w : World) (b o n : Nat) : Array Value := ((List.range n).map fun j => (w.cell? ⟨b, o + j, none⟩).getD undef).toArray
def has (w : World) (b o n : Nat) : Bool := (List.range n).all fun j => (w.cell? ⟨b, o + j, none⟩).isSome
/-- they may be written -/
def free (w : World) (b o n : Nat) : Bool := (List.range n).all fun j => (w.cell? ⟨b, o + j, none⟩).isSome && !(w.frozen? ⟨b, o + j, none⟩)

theorem has_spec {w : World} {b o n : Nat} : has w b o n = true ↔ ∀ j, j < n → (w.cell? ⟨b, o + j, none⟩).isSome = true := by
  simp [has, List.all_eq_true]
theorem free_spec {w : World} {b o n : Nat} : free w b o n = true ↔ w.there b o n := by
  simp [free, List.all_eq_true, World.there]
theorem rd_length (w : World) (b o n : Nat) : (rd w b o n).size = n := by simp [rd]
theorem rd_range {w : World} {b o n : Nat} (h : has w b o n = true) : w.rangeAt b o (rd w b o n).toList := fun j v hv => by
  rw [has_spec] at h
  have hj : j < n := by
    by_cases hj : j < n
    · exact hj
    · rw [List.getElem?_eq_none (by simp [rd]; omega)] at hv; cases hv
  have := h j hj
  obtain ⟨u, hu⟩ := Option.isSome_iff_exists.1 this
  simp [rd, List.getElem?_range hj, hu] at hv
  rw [hu, hv]
theorem range_rd {w : World} {b o : Nat} {cs : List Value} (h : w.rangeAt b o cs) : rd w b o cs.length = cs.toArray := by
  apply Array.toList_inj.1
  apply List.ext_getElem?
  intro j
  by_cases hj : j < cs.length
  · have := h j _ (List.getElem?_eq_getElem hj)
    simp [rd, this, hj]
  · rw [List.getElem?_eq_none (by simp [rd]; omega), List.getElem?_eq_none (by simpa using hj)]
theorem range_has {w : World} {b o : Nat} {cs : List Value} (h : w.rangeAt b o cs) : has w b o cs.length = true := by
  rw [has_spec]
  exact fun j hj => by rw [h j _ (List.getElem?_eq_getElem hj)]; rfl

/-- what a load, a store of such a type comes to -/
noncomputable def ldA (T : TypeId) (w : World) (v : Value) : Result Next := (execOp (fun _ => v) ⟨none, .load T (.tmp 0), 0, "", #[], none⟩).run Try.prog w
noncomputable def stA (T : TypeId) (w : World) (x y : Value) : Result Next := (execOp (fun o => match o with | .tmp 0 => x | _ => y) ⟨none, .store T (.tmp 0) (.tmp 1), 0, "", #[], none⟩).run Try.prog w

theorem fold_ld54 {ev : Operand → Value} {dst : Option Tmp} {x : Operand} {ty : TypeId} {pos : String} {aft : Array Edge} {g : Option (Tmp × Bool)} {w : World} :
    (execOp ev ⟨dst, .load 54 x, ty, pos, aft, g⟩).run Try.prog w = ldA 54 w (ev x) := rfl
theorem fold_st54 {ev : Operand → Value} {dst : Option Tmp} {x y : Operand} {ty : TypeId} {pos : String} {aft : Array Edge} {g : Option (Tmp × Bool)} {w : World} :
    (execOp ev ⟨dst, .store 54 x y, ty, pos, aft, g⟩).run Try.prog w = stA 54 w (ev x) (ev y) := rfl

theorem ldA_at {T : TypeId} {d : TypeDesc} {n : Nat} (hu : Try.prog.underlying T = some d) (hd : d.isRow = true) (hi : (Try.prog.info? T).map (·.size) = some n) {w : World} {b o : Nat} (h : has w b o n = true) :
    ldA T w (.pointer (some ⟨b, o, none⟩)) = .ok (.value (.agg (rd w b o n))) w := by
  have hr := run_loadVar_mid (P := Try.prog) w b o T _ d (rd_range h) hu hd (by rw [Array.length_toList, rd_length]; exact hi)
  unfold ldA execOp
  simp only [Instr.loadAt, Instr.sureAddr, Sem.run_bind, Sem.run_pure, Result.andThen_ok, hr]
theorem stA_at {T : TypeId} {n : Nat} (hi : (Try.prog.info? T).map (·.size) = some n) {w : World} {b o : Nat} {cs : Array Value} (hs : cs.size = n) (h1 : cs.all (·.oneCell') = true) (h : free w b o n = true) :
    stA T w (.pointer (some ⟨b, o, none⟩)) (.agg cs) = Result.ok Next.skip (w.setCells b o cs.toList) := by
  subst hs
  have hr := run_storeVar_mid (P := Try.prog) w b o T cs (free_spec.1 h) hi h1
  unfold stA execOp
  simp only [Instr.storeAt, Instr.sureAddr, Sem.run_bind, Sem.run_pure, Result.andThen_ok, hr]

theorem ld54_at {w : World} {b o : Nat} (h : has w b o 17 = true) : ldA 54 w (.pointer (some ⟨b, o, none⟩)) = .ok (.value (.agg (rd w b o 17))) w :=
  ldA_at Try.underlying54 rfl info54s h
theorem st54_at {w : World} {b o : Nat} {s : Bool} {A : List UInt8} (hA : A.length = 16) (h : free w b o 17 = true) :
    stA 54 w (.pointer (some ⟨b, o, none⟩)) (.agg (adrC s A)) = Result.ok Next.skip (w.setCells b o (adrC s A).toList) :=
  stA_at info54s (by rw [adr_size, hA]) (adr_oneCell s A) h

/-- an address that lies there -/
theorem AdrAt.has {w : World} {g o : Nat} {s : Bool} {A : List UInt8} (h : AdrAt w g o s A) (hA : A.length = 16) : has w g o 17 = true := by
  have := range_has h
  rwa [Array.length_toList, adr_size, hA] at this
theorem AdrAt.rd {w : World} {g o : Nat} {s : Bool} {A : List UInt8} (h : AdrAt w g o s A) (hA : A.length = 16) : rd w g o 17 = adrC s A := by
  have := range_rd h
  rwa [Array.length_toList, adr_size, hA] at this

/-! new blocks -/
theorem free_drew (w : World) (b o n : Nat) : free w.drew b o n = free w b o n := by simp [free]
theorem has_drew (w : World) (b o n : Nat) : has w.drew b o n = has w b o n := by simp [has]
theorem rd_drew (w : World) (b o n : Nat) : rd w.drew b o n = rd w b o n := by simp [rd]
theorem free_new (w : World) (cs : Array Value) (t : TypeId) (g n : Nat) (hg : w.heap.size = g) (hn : n ≤ cs.size) : free (w.alloc (.cells cs t)) g 0 n = true := by
  subst hg
  rw [free_spec]
  intro j hj
  rw [World.cell?_alloc_mark, World.frozen?_alloc_new]
  simp; omega
theorem free_alloc {w : World} {b o n : Nat} (h : free w b o n = true) (ob : Obj) : free (w.alloc ob) b o n = true := by
  rw [free_spec] at h ⊢
  exact World.there_alloc h ob
theorem free_new1 (w : World) (cs : Array Value) (t : TypeId) (n : Nat) : free (w.alloc (.cells cs t)) w.heap.size 0 n = decide (n ≤ cs.size) := by
  by_cases h : n ≤ cs.size
  · rw [free_new w cs t _ _ rfl h]; simp [h]
  · have : free (w.alloc (.cells cs t)) w.heap.size 0 n = false := by
      apply Bool.eq_false_iff.2
      intro hf
      have := (free_spec.1 hf (n - 1) (by omega)).1
      rw [World.cell?_alloc_mark] at this
      simp at this; omega
    rw [this]; simp; omega
theorem free_old (w : World) (b o n : Nat) (ob : Obj) (hb : b < w.heap.size) : free (w.alloc ob) b o n = free w b o n := by
  unfold free
  have e : ∀ j, (w.alloc ob).cell? ⟨b, o + j, none⟩ = w.cell? ⟨b, o + j, none⟩ := fun j => World.cell?_alloc_lt _ _ _ hb
  have f : ∀ j, (w.alloc ob).frozen? ⟨b, o + j, none⟩ = w.frozen? ⟨b, o + j, none⟩ := fun j => World.frozen?_alloc_old _ _ _ (Nat.ne_of_lt hb)
  simp [e, f]
theorem free_new2 (w : World) (cs : Array Value) (t : TypeId) (n : Nat) (ob : Obj) : free ((w.alloc (.cells cs t)).alloc ob) w.heap.size 0 n = decide (n ≤ cs.size) := by
  rw [free_old _ _ _ _ _ (by simp), free_new1]
theorem free_new3 (w : World) (cs : Array Value) (t : TypeId) (n : Nat) (ob : Obj) : free ((w.alloc ob).alloc (.cells cs t)) (w.heap.size + 1) 0 n = decide (n ≤ cs.size) := by
  have := free_new1 (w.alloc ob) cs t n
  rwa [size_alloc] at this
theorem free_setCells {w : World} {b o n : Nat} (h : free w b o n = true) (b' o' : Nat) (vs : List Value) : free (w.setCells b' o' vs) b o n = true := by
  rw [free_spec] at h ⊢
  exact World.there_setCells h b' o' vs
theorem below_sets {B b : Nat} (hb : B ≤ b) (vs : List Value) : ∀ (o : Nat) {a w : World}, Below B a w → Below B a (w.setCells b o vs) := by
  induction vs with
  | nil => intro o a w h; exact h
  | cons v vs ih => intro o a w h; exact ih (o + 1) (h.setCell hb v)
theorem size_sets (b : Nat) (vs : List Value) : ∀ (o : Nat) (w : World), (w.setCells b o vs).heap.size = w.heap.size := by
  induction vs with
  | nil => intro o w; rfl
  | cons v vs ih => intro o w; rw [World.setCells, ih]; simp
theorem adrAt_sets {w : World} {g : Nat} {s : Bool} {A : List UInt8} (h : free w g 0 17 = true) (hA : A.length = 16) : AdrAt (w.setCells g 0 (adrC s A).toList) g 0 s A :=
  World.rangeAt_setCells_same w g 0 _ (by rw [Array.length_toList, adr_size, hA]; exact free_spec.1 h)
theorem AdrAt.sets {w : World} {g o : Nat} {s : Bool} {A : List UInt8} (h : AdrAt w g o s A) (b o' : Nat) (vs : List Value) (hb : g ≠ b) : AdrAt (w.setCells b o' vs) g o s A :=
  World.rangeAt_setCells_apart h b o' vs (.inl hb)
theorem AdrAt.alloc {w : World} {g o : Nat} {s : Bool} {A : List UInt8} (h : AdrAt w g o s A) (ob : Obj) : AdrAt (w.alloc ob) g o s A := h.below (below_alloc w ob)
/-- a byte of it is written -/
theorem AdrAt.put {w : World} {g : Nat} {s : Bool} {A : List UInt8} (h : AdrAt w g 0 s A) (i : Nat) (x : UInt8) (hi : i < A.length) : AdrAt (w.setCell ⟨g, 1 + i, none⟩ (.int .u8 (x.toNat : Int))) g 0 s (A.set i x) := by
  intro j v hv
  rw [adr_list] at hv
  have hold : ∃ u, w.cell? ⟨g, 1 + i, none⟩ = some u := ⟨byteV (A[i]'hi), by
    have := h (i + 1) (byteV (A[i]'hi)) (by rw [adr_list, List.getElem?_cons_succ, List.getElem?_map, List.getElem?_eq_getElem hi]; rfl)
    rwa [show 0 + (i + 1) = 1 + i by omega] at this⟩
  obtain ⟨u, hu⟩ := hold
  by_cases hj : j = i + 1
  · subst hj
    rw [show 0 + (i + 1) = 1 + i by omega, World.cell?_setCell_same w _ _ hu]
    rw [List.getElem?_cons_succ, List.getElem?_map, List.getElem?_set_self hi] at hv
    exact hv
  · have : (w.setCell ⟨g, 1 + i, none⟩ (.int .u8 (x.toNat : Int))).cell? ⟨g, 0 + j, none⟩ = w.cell? ⟨g, 0 + j, none⟩ :=
      World.cell?_setCell_other w _ _ _ (by simp)
    rw [this]
    refine h j v ?_
    rw [adr_list]
    match j, hj with
    | 0, _ => exact hv
    | j + 1, hj =>
      rw [List.getElem?_cons_succ, List.getElem?_map, List.getElem?_set_ne (by omega)] at hv
      rw [List.getElem?_cons_succ, List.getElem?_map]; exact hv
end Go.Proofs.Ytnckmaieghlpmaa
