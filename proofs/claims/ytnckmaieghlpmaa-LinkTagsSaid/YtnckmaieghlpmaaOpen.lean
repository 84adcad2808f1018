/-
  Arguments as data: a slice of bytes, a slice of such slices, opened; what their bulk bounds.
-/
import Derived.Test.YtnckmaieghlpmaaBulk
import Derived.Test.YtnckmaieghlpmaaKit
import Derived.ProofKit
import Derived.OpenShut
import Derived.Deep.Slices
namespace Go.Proofs.Ytnckmaieghlpmaa
open Go.ChangeShapes Go.WideShapes Go.ChangeAt Go.RowKit Go.Deep
set_option linter.unusedVariables false

theorem own : ownKnob Try.prog.godebug = none := by kernel_rfl
theorem laidOut : laidOutB Try.prog = true := by kernel_rfl
theorem cells24 : Try.prog.cellsOf 24 = 1 := by kernel_rfl
theorem cells5 : Try.prog.cellsOf 5 = 1 := by kernel_rfl

def byteOf (n : Int) : UInt8 := UInt8.ofNat n.toNat
theorem byteOf_wf {n : Int} (h : (Lit.int .u8 n).wf = true) : ((byteOf n).toNat : Int) = n := by
  have hx : 0 ≤ n ∧ n ≤ 255 := by simpa [Lit.wf, IntKind.min, IntKind.max, IntKind.signed, IntKind.bits] using h
  simp [byteOf]; omega

section
variable {H : Type} {enc : TypeId × Value → H} {w : World} {held : Bool}
theorem open_bytes {fuel : Nat} {v : Value} {x : DataW H × List MemPlace} (h : DataW.trod enc Try.prog w 0 (fun _ => true) held fuel 24 [v] = some x) :
    ∃ bs c, Bsc w v bs c ∧ bs.length ≤ Rows.uptoBulk x.1 := by
  rcases open_ints Try.underlying24 Try.underlying5 cells5 h with ⟨hcs, hx⟩ | ⟨a, len, cap, zs, hcs, _, hl, hm, hz, hx, hcell, hwz⟩
  · simp only [List.cons.injEq, and_true] at hcs
    subst hcs
    exact ⟨[], 0, ⟨none, rfl, Nat.le_refl _, Nat.zero_le _, .inl rfl⟩, Nat.zero_le _⟩
  · simp only [List.cons.injEq, and_true] at hcs
    subst hcs hx
    simp only [if_true] at hz
    have hbl : ((zs.take len).map byteOf).length = len := by simp; omega
    refine ⟨(zs.take len).map byteOf, cap, ⟨some a, by rw [hbl], by rw [hbl]; exact hl, hm, ?_⟩, ?_⟩
    · by_cases h0 : len = 0
      · left; subst h0; simp
      · right
        have hc0 := hcell 0 (by omega)
        obtain ⟨b, off, spot⟩ := a
        have hspot : spot = none := by simpa [Addr.add] using World.cell?_spot hc0
        subst hspot
        refine ⟨b, off, rfl, fun i x hx => ?_⟩
        rw [List.getElem?_map, List.getElem?_take] at hx
        obtain ⟨z, hz', rfl⟩ := Option.map_eq_some_iff.1 hx
        split at hz'
        · have hil : i < zs.length := (List.getElem?_eq_some_iff.1 hz').1
          have hc := hcell i hil
          have hadd : (⟨b, off, none⟩ : Addr).add i = ⟨b, off + i, none⟩ := by unfold Addr.add; split <;> simp_all
          rw [hadd] at hc
          rw [hc, byteOf_wf (hwz z (List.mem_of_getElem? hz'))]
          simp [List.getD, hz']
        · cases hz'
    · have := bulks.slice_le (H := H) (lits .u8 (zs.take len)) (lits .u8 (zs.drop len))
      rw [hbl]
      simp only [lits, List.length_map, List.length_take] at this ⊢
      omega

theorem open_nums {t e : TypeId} {k : IntKind} {fuel : Nat} {v : Value} {x : DataW H × List MemPlace} (ht : Try.prog.underlying t = some (.slice e)) (he : Try.prog.underlying e = some (.int k)) (hc : Try.prog.cellsOf e = 1)
    (h : DataW.trod enc Try.prog w 0 (fun _ => true) held fuel t [v] = some x) :
    ∃ a c zs, v = .slice a zs.length c ∧ zs.length ≤ c ∧ c ≤ maxLen ∧ NumsAt w k a zs ∧ ∀ z ∈ zs, (Lit.int k z).wf = true := by
  rcases open_ints ht he hc h with ⟨hcs, hx⟩ | ⟨a, len, cap, zs, hcs, _, hl, hm, hz, hx, hcell, hwz⟩
  · simp only [List.cons.injEq, and_true] at hcs
    subst hcs
    exact ⟨none, 0, [], rfl, Nat.le_refl _, Nat.zero_le _, .inl rfl, by simp⟩
  · simp only [List.cons.injEq, and_true] at hcs
    subst hcs hx
    simp only [if_true] at hz
    have hbl : (zs.take len).length = len := by simp; omega
    refine ⟨some a, cap, zs.take len, by rw [hbl], by rw [hbl]; exact hl, hm, ?_, fun z hz' => hwz z (List.mem_of_mem_take hz')⟩
    by_cases h0 : len = 0
    · left; subst h0; simp
    · right
      have hc0 := hcell 0 (by omega)
      obtain ⟨b, off, spot⟩ := a
      have hspot : spot = none := by simpa [Addr.add] using World.cell?_spot hc0
      subst hspot
      refine ⟨b, off, rfl, fun i z hz' => ?_⟩
      rw [List.getElem?_take] at hz'
      split at hz'
      · have hil : i < zs.length := (List.getElem?_eq_some_iff.1 hz').1
        have hc := hcell i hil
        have hadd : (⟨b, off, none⟩ : Addr).add i = ⟨b, off + i, none⟩ := by unfold Addr.add; split <;> simp_all
        rw [hadd] at hc
        rw [hc]; simp [List.getD, hz']
      · cases hz'

theorem sum_le {H : Type} (n : Nat) (D : Nat → DataW H) (f : Nat → List UInt8) (h : ∀ i, i < n → (f i).length ≤ Rows.uptoBulk (D i)) :
    ((List.range n).map f).flatten.length ≤ Rows.uptoBulkAll ((List.range n).map D) := by
  induction n with
  | zero => simp
  | succ n ih =>
    rw [List.range_succ, List.map_append, List.map_append, List.flatten_append, bulks.append, List.length_append]
    have h1 := ih (fun i hi => h i (by omega))
    have h2 := h n (by omega)
    simp only [List.map_cons, List.map_nil, List.flatten_cons, List.flatten_nil, List.append_nil, Rows.uptoBulkAll]
    omega

theorem open_rows2 {fuel : Nat} {v : Value} {x : DataW H × List MemPlace} (h : DataW.trod enc Try.prog w 0 (fun _ => true) held fuel 22 [v] = some x) :
    ∃ a L c, v = .slice a L.length c ∧ L.length ≤ c ∧ c ≤ maxLen ∧ Rows2 w a L ∧ L.length ≤ Rows.uptoBulk x.1 ∧ L.flatten.length ≤ Rows.uptoBulk x.1 := by
  rcases open_slice1 Try.underlying22 cells24 h with ⟨hcs, hx⟩ | ⟨a, len, cap, m, n, V, D, Pl, hcs, hb, hl, hm, hmm, rfl, hel⟩
  · simp only [List.cons.injEq, and_true] at hcs
    subst hcs
    exact ⟨none, [], 0, rfl, Nat.le_refl _, Nat.zero_le _, .inl rfl, by simp, by simp⟩
  · simp only [List.cons.injEq, and_true] at hcs
    subst hcs
    simp only [if_true] at hmm
    subst hmm
    have each : ∀ i, i < m → ∃ bs : List UInt8, Bs w (V i) bs ∧ bs.length ≤ Rows.uptoBulk (D i) := fun i hi => by
      obtain ⟨bs, c, h1, h2⟩ := open_bytes (hel i hi).2
      exact ⟨bs, h1.bs, h2⟩
    obtain ⟨f, hf⟩ := choose_lt each
    have h1 := sum_le len D f (fun i hi => (hf i (by omega)).2)
    have h2 := bulks.slice_elems (H := H) ((List.range len).map D) ((List.range (m - len)).map fun j => D (len + j))
    have h3 := bulks.length_le ((List.range len).map D)
    simp only [List.length_map, List.length_range] at h3
    refine ⟨some a, (List.range len).map f, m, by simp, by simpa using hl, hm, ?_, (by simp only [List.length_map, List.length_range]; show len ≤ Rows.uptoBulk (DataW.slice _ _); omega), (by show _ ≤ Rows.uptoBulk (DataW.slice _ _); omega)⟩
    by_cases h0 : len = 0
    · left; simp [h0]
    · right
      have hc0 := (hel 0 (by omega)).1
      obtain ⟨b, off, spot⟩ := a
      have hspot : spot = none := by simpa [Addr.add] using World.cell?_spot hc0
      subst hspot
      refine ⟨b, off, rfl, fun i bs hi => ?_⟩
      have hil : i < len := by
        have := (List.getElem?_eq_some_iff.1 hi).1
        simpa using this
      rw [List.getElem?_map, List.getElem?_range hil] at hi
      simp only [Option.map_some, Option.some.injEq] at hi
      subst hi
      have hc := (hel i (by omega)).1
      have hadd : (⟨b, off, none⟩ : Addr).add i = ⟨b, off + i, none⟩ := by unfold Addr.add; split <;> simp_all
      rw [hadd] at hc
      exact ⟨_, hc, (hf i (by omega)).1⟩
theorem bs_ofc {H : Type} {d : DataW H} {w : World} {v : Value} (F : ∃ bs c, Bsc w v bs c ∧ bs.length ≤ Rows.uptoBulk d) : ∃ bs, Bs w v bs :=
  let ⟨bs, _, h, _⟩ := F; ⟨bs, h.bs⟩
theorem cells31 : Try.prog.cellsOf 31 = 1 := by kernel_rfl
theorem cells3 : Try.prog.cellsOf 3 = 1 := by kernel_rfl
end
end Go.Proofs.Ytnckmaieghlpmaa
