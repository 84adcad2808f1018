/-
  An array of three numbers of 16 bits as an argument.
-/
import Derived.Test.YtnckmaieghlpmaaOpenA
namespace Go.Proofs.Ytnckmaieghlpmaa
open Go.ChangeShapes Go.WideShapes Go.ChangeAt Go.RowKit Go.Deep
set_option linter.unusedVariables false

theorem okWide_array {P : Program} {w : World} {r : Reach} {base : Nat} {t : TypeId} {v : Value} {n : Nat} {e : TypeId} (ht : P.underlying t = some (.array n e)) (hv : Value.okWide P w r base t v) : ∃ cs, v = .agg cs := by
  unfold Value.okWide at hv
  rw [ht] at hv
  obtain ⟨cs, h, _⟩ := hv
  exact ⟨cs, h⟩
theorem u16_of {z : Int} (F : (Lit.int .u16 z).wf = true) : ∃ n : Nat, z = (n : Int) ∧ n < 65536 := by
  have hx : 0 ≤ z ∧ z ≤ 65535 := by simpa [Lit.wf, IntKind.min, IntKind.max, IntKind.signed, IntKind.bits] using F
  obtain ⟨n, rfl⟩ := Int.eq_ofNat_of_zero_le hx.1
  exact ⟨n, rfl, by omega⟩
theorem cells81 : Try.prog.cellsOf 81 = 3 := by kernel_rfl
section
variable {H : Type} {enc : TypeId × Value → H} {w : World} {held : Bool}
set_option maxRecDepth 100000 in
theorem open_arr3 {base : Nat} {v : Value} {d : DataW H} {p : List MemPlace} (hv : Value.okWide Try.prog w .any base 81 v) (h : DataW.Trod enc Try.prog w 0 (fun _ => true) held 81 v d p) :
    ∃ t0 t1 t2 : Nat, v = .agg #[.int .u16 t0, .int .u16 t1, .int .u16 t2] ∧ t0 < 65536 ∧ t1 < 65536 ∧ t2 < 65536 := by
  obtain ⟨cs, rfl⟩ := okWide_array Try.underlying81 hv
  obtain ⟨m, hm⟩ := h
  have hm' : DataW.trod enc Try.prog w 0 (fun _ => true) held m 81 cs.toList = some (d, p) := hm
  have q := DataW.trod_array Try.underlying81 hm'
  obtain ⟨xs, m', q1, q2, q3, hxl, hxs⟩ := q
  rw [cells81] at q3
  have each : ∀ i, i < 3 → ∃ t : Nat, cs.toList[i]? = some (.int .u16 (t : Int)) ∧ t < 65536 := fun i hi => by
    have hx := hxs i hi
    rw [List.getElem?_eq_getElem (by omega)] at hx
    obtain ⟨z, hz, _, hw⟩ := DataW.trod_int Try.underlying25 hx
    rw [cells25, Nat.mul_one] at hz
    obtain ⟨t, rfl, ht⟩ := u16_of hw
    exact ⟨t, take_one hz, ht⟩
  obtain ⟨t0, h0, b0⟩ := each 0 (by omega)
  obtain ⟨t1, h1, b1⟩ := each 1 (by omega)
  obtain ⟨t2, h2, b2⟩ := each 2 (by omega)
  refine ⟨t0, t1, t2, ?_, b0, b1, b2⟩
  have : cs = #[.int .u16 t0, .int .u16 t1, .int .u16 t2] := by
    apply Array.toList_inj.1
    apply List.ext_getElem?
    intro i
    match i with
    | 0 => rw [h0]; rfl
    | 1 => rw [h1]; rfl
    | 2 => rw [h2]; rfl
    | i + 3 => rw [List.getElem?_eq_none (by omega), List.getElem?_eq_none (by simp)]
  rw [this]
end
end Go.Proofs.Ytnckmaieghlpmaa
