/-
  Arguments as data: an address, an address and a port.
-/
import Derived.Test.YtnckmaieghlpmaaOpen
import Derived.Test.YtnckmaieghlpmaaUput
import Derived.ChangeSame
namespace Go.Proofs.Ytnckmaieghlpmaa
open Go.ChangeShapes Go.WideShapes Go.ChangeAt Go.RowKit Go.Deep
set_option linter.unusedVariables false

theorem cells4 : Try.prog.cellsOf 4 = 1 := by kernel_rfl
theorem cells52 : Try.prog.cellsOf 52 = 16 := by kernel_rfl
theorem cells54 : Try.prog.cellsOf 54 = 17 := by kernel_rfl
theorem cells61 : Try.prog.cellsOf 61 = 18 := by kernel_rfl
theorem cells25 : Try.prog.cellsOf 25 = 1 := by kernel_rfl

theorem take_one {α : Type} {l : List α} {i : Nat} {x : α} (h : (l.drop i).take 1 = [x]) : l[i]? = some x := by
  have h2 : ((l.drop i).take 1)[0]? = some x := by rw [h]; rfl
  rw [List.getElem?_take] at h2
  simpa using h2

theorem okWide_struct {P : Program} {w : World} {r : Reach} {base : Nat} {t : TypeId} {v : Value} {fs : Array Field} (ht : P.underlying t = some (.struct fs)) (hv : Value.okWide P w r base t v) : ∃ cs, v = .agg cs := by
  unfold Value.okWide at hv
  rw [ht] at hv
  obtain ⟨cs, h, _⟩ := hv
  exact ⟨cs, h⟩
section
variable {H : Type} {enc : TypeId × Value → H} {w : World} {held : Bool}
theorem adr_of {m : Nat} {cs : List Value} {x : DataW H × List MemPlace} (h : DataW.trod enc Try.prog w 0 (fun _ => true) held m 54 cs = some x) :
    ∃ s A, List.length A = 16 ∧ cs = (adrC s A).toList := by
  obtain ⟨y0, y1, n, rfl, hl, h0, h1⟩ := trod_struct2 Try.underlying54 h
  rw [cells54] at hl
  obtain ⟨b, hb, _⟩ := DataW.trod_bool Try.underlying4 h0
  obtain ⟨xs, m', _, _, _, hxl, hxs⟩ := DataW.trod_array Try.underlying52 h1
  have hb' : cs[0]? = some (.bool b) := by
    refine take_one ?_
    have hb2 : (cs.drop 0).take (Try.prog.cellsOf 4) = [.bool b] := hb
    rw [cells4] at hb2; exact hb2
  have each : ∀ i, i < 16 → ∃ y : UInt8, cs[i + 1]? = some (byteV y) := fun i hi => by
    have hx := hxs i hi
    rw [List.getElem?_eq_getElem (by omega)] at hx
    obtain ⟨z, hz, _, hw⟩ := DataW.trod_int Try.underlying5 hx
    have hz2 : ((((cs.drop 1).take (Try.prog.cellsOf 52)).drop (i * Try.prog.cellsOf 5)).take (Try.prog.cellsOf 5)) = [.int .u8 z] := hz
    rw [cells52, cells5, Nat.mul_one] at hz2
    have h3 := take_one hz2
    rw [List.getElem?_take] at h3
    rw [if_pos hi, List.getElem?_drop, Nat.add_comm 1 i] at h3
    exact ⟨byteOf z, by rw [h3, byteV, byteOf_wf hw]⟩
  obtain ⟨f, hf⟩ := choose_lt each
  refine ⟨b, (List.range 16).map f, by simp, ?_⟩
  rw [adr_list]
  apply List.ext_getElem?
  intro i
  match i with
  | 0 => rw [hb']; rfl
  | i + 1 =>
    by_cases hi : i < 16
    · rw [hf i hi, List.getElem?_cons_succ, List.getElem?_map, List.getElem?_map, List.getElem?_range hi]; rfl
    · rw [List.getElem?_eq_none (by omega), List.getElem?_eq_none (by simp; omega)]

set_option maxRecDepth 100000 in
theorem open_adr {base : Nat} {v : Value} {d : DataW H} {p : List MemPlace} (hv : Value.okWide Try.prog w .any base 54 v) (h : DataW.Trod enc Try.prog w 0 (fun _ => true) held 54 v d p) :
    ∃ s A, v = .agg (adrC s A) ∧ List.length A = 16 := by
  obtain ⟨cs, rfl⟩ := okWide_struct Try.underlying54 hv
  obtain ⟨m, hm⟩ := h
  obtain ⟨s, A, hA, hcs⟩ := adr_of hm
  refine ⟨s, A, ?_, hA⟩
  have : cs = adrC s A := Array.toList_inj.1 hcs
  rw [this]

set_option maxRecDepth 100000 in
theorem open_end {base : Nat} {v : Value} {d : DataW H} {p : List MemPlace} (hv : Value.okWide Try.prog w .any base 61 v) (h : DataW.Trod enc Try.prog w 0 (fun _ => true) held 61 v d p) :
    ∃ s A q, v = .agg (endC s A q) ∧ List.length A = 16 ∧ q < 65536 := by
  obtain ⟨cs, rfl⟩ := okWide_struct Try.underlying61 hv
  obtain ⟨m, hm⟩ := h
  obtain ⟨y0, y1, n, _, hl, h0, h1⟩ := trod_struct2 Try.underlying61 hm
  rw [cells61] at hl
  have hl' : cs.toList.length = 18 := hl
  obtain ⟨z, hz, _, hw⟩ := DataW.trod_int Try.underlying25 h1
  have h0' : DataW.trod enc Try.prog w 0 (fun _ => true) held n 54 (cs.toList.take 17) = some y0 := by
    have h2 : DataW.trod enc Try.prog w 0 (fun _ => true) held n 54 ((cs.toList.drop 0).take (Try.prog.cellsOf 54)) = some y0 := h0
    rw [cells54] at h2; exact h2
  have hz2 : (cs.toList.drop 17).take 1 = [.int .u16 z] := by
    have h2 : (cs.toList.drop 17).take (Try.prog.cellsOf 25) = [.int .u16 z] := hz
    rw [cells25] at h2; exact h2
  obtain ⟨s, A, hA, hcs⟩ := adr_of h0'
  have hx : 0 ≤ z ∧ z ≤ 65535 := by simpa [Lit.wf, IntKind.min, IntKind.max, IntKind.signed, IntKind.bits] using hw
  obtain ⟨q, rfl⟩ := Int.eq_ofNat_of_zero_le hx.1
  refine ⟨s, A, q, ?_, hA, by omega⟩
  have hd : cs.toList.drop 17 = [.int .u16 (q : Int)] := by
    rw [← hz2, List.take_of_length_le (by rw [List.length_drop]; omega)]
  have : cs = endC s A q := by
    apply Array.toList_inj.1
    rw [← List.take_append_drop 17 cs.toList, hcs, hd, adr_list]
    simp [endC]
  rw [this]
end
end Go.Proofs.Ytnckmaieghlpmaa
