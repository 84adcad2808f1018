/-
  Parts that are an argument; a part in a box.
  FOR A PROOF OF AN '..UptoSaid': WHAT THE BOUND GIVES. Copy it as <Name>Bulk.lean (put your seat's Name for Ytnckmaieghlpmaa, the bound of 'uptoSmall' for 1048576), name it in GOCLAIM.json's 'order' behind <Name>Rows. By an AI agent, Sun Nov 15 2026. No person has read it. No macro, syntax, notation, axiom, sorry.
  Arguments as data: a slice of bytes, a slice of such slices, opened; what their bulk bounds.
  Arguments as data: an address, an address and a port.
  Arguments as data: a part, a slice of parts.
-/
import Derived.Test.YtnckmaieghlpmaaKnown17
import Derived.Test.YtnckmaieghlpmaaRows
import Derived.Test.YtnckmaieghlpmaaZ1
import Derived.ProofKit
import Derived.OpenShut
import Derived.Deep.Slices
import Derived.Test.YtnckmaieghlpmaaZ5
import Derived.ChangeSame
namespace Go.Proofs.Ytnckmaieghlpmaa
open Go.RowKit
set_option linter.unusedVariables false

/-- parts that are an argument -/
def PsArg (w : World) (L : List (PartD × Value)) : Prop := ∀ x ∈ L, x.1.nm.fit ∧ Bs w x.2 x.1.bs ∧ -9223372036854775808 ≤ x.1.pos ∧ x.1.pos ≤ 9223372036854775807
theorem PsArg.ok {w : World} {L : List (PartD × Value)} (h : PsArg w L) : PsOk w L := fun x hx => ⟨(h x hx).1.1, (h x hx).2.1⟩
/-- a part in a box -/
def Boxed (wr : World) (x : PartD × Value) (g : Nat) (wx : World) : Prop := PtAt wx g 0 x.1 x.2 ∧ wx.frozen? ⟨g, 38, none⟩ = false ∧ g = wr.heap.size ∧ g < wx.heap.size ∧ Below wr.heap.size wr wx
theorem boxed_new (wr : World) (x : PartD × Value) {Z : Array Value} (hn : x.1.nm.ok) (hZ : Z.size = 39) : Boxed wr x wr.heap.size ((wr.alloc (.cells Z 90)).setCells wr.heap.size 0 (partL x.1 x.2)) :=
  ⟨bx_at hn hZ, by rw [World.frozen?_setCells]; exact World.frozen?_alloc_new (w := wr) Z 90 38, rfl, by rw [size_sets]; simp, bx_below⟩
end Go.Proofs.Ytnckmaieghlpmaa
namespace Go.Proofs.Ytnckmaieghlpmaa.bulks

theorem one_le {H : Type} (d : DataW H) : 1 ≤ Rows.uptoBulk d := by
  cases d with
  | lit l => cases l <;> simp [Rows.uptoBulk]
  | nil => simp [Rows.uptoBulk]
  | ptr d => simp [Rows.uptoBulk]
  | slice elems spare => simp [Rows.uptoBulk]
  | agg parts => simp [Rows.uptoBulk]
  | iface t d => simp [Rows.uptoBulk]
  | map entries => simp [Rows.uptoBulk]
  | held h => simp [Rows.uptoBulk]

/-- a part's bulk is at most the whole's -/
theorem part_le {H : Type} {d : DataW H} {l : List (DataW H)} (h : d ∈ l) : Rows.uptoBulk d ≤ Rows.uptoBulkAll l := by
  induction l with
  | nil => cases h
  | cons x r ih =>
    simp only [Rows.uptoBulkAll]
    cases List.mem_cons.1 h with
    | inl e => subst e; omega
    | inr e => have := ih e; omega

theorem append {H : Type} (l r : List (DataW H)) : Rows.uptoBulkAll (l ++ r) = Rows.uptoBulkAll l + Rows.uptoBulkAll r := by
  induction l with
  | nil => simp [Rows.uptoBulkAll]
  | cons x l ih => simp only [List.cons_append, Rows.uptoBulkAll, ih]; omega

/-- so many values at the most -/
theorem length_le {H : Type} (l : List (DataW H)) : l.length ≤ Rows.uptoBulkAll l := by
  induction l with
  | nil => simp [Rows.uptoBulkAll]
  | cons x r ih => have := one_le x; simp only [Rows.uptoBulkAll, List.length_cons]; omega

/-- a slice's places, and what they hold -/
theorem slice_le {H : Type} (elems spare : List (DataW H)) : elems.length + spare.length + 1 ≤ Rows.uptoBulk (.slice elems spare) := by
  have h1 := length_le elems
  have h2 := length_le spare
  simp only [Rows.uptoBulk]
  omega
theorem slice_elems {H : Type} (elems spare : List (DataW H)) : Rows.uptoBulkAll elems + 1 ≤ Rows.uptoBulk (.slice elems spare) := by
  simp only [Rows.uptoBulk]
  omega

/-- a string's letters -/
theorem string_eq {H : Type} (bytes : List UInt8) : Rows.uptoBulk (DataW.lit (H := H) (.string bytes)) = bytes.length + 1 := by
  simp [Rows.uptoBulk]

/-- THE BOUND, as the builder hands it over ('hk') -/
theorem bound {H : Type} {l : List (DataW H)} (hk : Rows.uptoSmall H l = true) : Rows.uptoBulkAll l ≤ 1048576 := by
  simpa [Rows.uptoSmall] using hk

/-- ROOM: a slice of n elements of b bytes, grown by append: below the 2^48 bytes that append, make and a Builder bear. Here n up to 2^21, b up to 4,096: put your own numbers. -/
theorem room {n b : Nat} (hn : n ≤ 2097152) (hb : b ≤ 4096) : (n + n / 4 + 192) * b ≤ 281474976710656 := by
  have h : (n + n / 4 + 192) * b ≤ 2621632 * 4096 := Nat.mul_le_mul (by omega) hb
  omega

end Go.Proofs.Ytnckmaieghlpmaa.bulks
namespace Go.Proofs.Ytnckmaieghlpmaa
open Go.ChangeShapes Go.WideShapes Go.ChangeAt Go.RowKit Go.Deep
set_option linter.unusedVariables false

theorem own : ownKnob Try.prog.godebug = none := by kernel_rfl
theorem laidOut : laidOutB Try.prog = true := by kernel_rfl
theorem cells24 : Try.prog.cellsOf 24 = 1 := by kernel_rfl
theorem cells5 : Try.prog.cellsOf 5 = 1 := by kernel_rfl

def byteOf (n : Int) : UInt8 := UInt8.ofNat n.toNat
theorem byteOf_wf {n : Int} (h : (Lit.int .u8 n).wf = true) : ((byteOf n).toNat : Int) = n := by
  have hx : 0 ≤ n ∧ n ≤ 255 := by simpa [Lit.wf, IntKind.min, IntKind.max, IntKind.signed, IntKind.bits] using h
  simp [byteOf]; omega

section
variable {H : Type} {enc : TypeId × Value → H} {w : World} {held : Bool}
theorem open_bytes {fuel : Nat} {v : Value} {x : DataW H × List MemPlace} (h : DataW.trod enc Try.prog w 0 (fun _ => true) held fuel 24 [v] = some x) :
    ∃ bs c, Bsc w v bs c ∧ bs.length ≤ Rows.uptoBulk x.1 := by
  rcases open_ints Try.underlying24 Try.underlying5 cells5 h with ⟨hcs, hx⟩ | ⟨a, len, cap, zs, hcs, _, hl, hm, hz, hx, hcell, hwz⟩
  · simp only [List.cons.injEq, and_true] at hcs
    subst hcs
    exact ⟨[], 0, ⟨none, rfl, Nat.le_refl _, Nat.zero_le _, .inl rfl⟩, Nat.zero_le _⟩
  · simp only [List.cons.injEq, and_true] at hcs
    subst hcs hx
    simp only [if_true] at hz
    have hbl : ((zs.take len).map byteOf).length = len := by simp; omega
    refine ⟨(zs.take len).map byteOf, cap, ⟨some a, by rw [hbl], by rw [hbl]; exact hl, hm, ?_⟩, ?_⟩
    · by_cases h0 : len = 0
      · left; subst h0; simp
      · right
        have hc0 := hcell 0 (by omega)
        obtain ⟨b, off, spot⟩ := a
        have hspot : spot = none := by simpa [Addr.add] using World.cell?_spot hc0
        subst hspot
        refine ⟨b, off, rfl, fun i x hx => ?_⟩
        rw [List.getElem?_map, List.getElem?_take] at hx
        obtain ⟨z, hz', rfl⟩ := Option.map_eq_some_iff.1 hx
        split at hz'
        · have hil : i < zs.length := (List.getElem?_eq_some_iff.1 hz').1
          have hc := hcell i hil
          have hadd : (⟨b, off, none⟩ : Addr).add i = ⟨b, off + i, none⟩ := by unfold Addr.add; split <;> simp_all
          rw [hadd] at hc
          rw [hc, byteOf_wf (hwz z (List.mem_of_getElem? hz'))]
          simp [List.getD, hz']
        · cases hz'
    · have := bulks.slice_le (H := H) (lits .u8 (zs.take len)) (lits .u8 (zs.drop len))
      rw [hbl]
      simp only [lits, List.length_map, List.length_take] at this ⊢
      omega

theorem open_nums {t e : TypeId} {k : IntKind} {fuel : Nat} {v : Value} {x : DataW H × List MemPlace} (ht : Try.prog.underlying t = some (.slice e)) (he : Try.prog.underlying e = some (.int k)) (hc : Try.prog.cellsOf e = 1)
    (h : DataW.trod enc Try.prog w 0 (fun _ => true) held fuel t [v] = some x) :
    ∃ a c zs, v = .slice a zs.length c ∧ zs.length ≤ c ∧ c ≤ maxLen ∧ NumsAt w k a zs ∧ ∀ z ∈ zs, (Lit.int k z).wf = true := by
  rcases open_ints ht he hc h with ⟨hcs, hx⟩ | ⟨a, len, cap, zs, hcs, _, hl, hm, hz, hx, hcell, hwz⟩
  · simp only [List.cons.injEq, and_true] at hcs
    subst hcs
    exact ⟨none, 0, [], rfl, Nat.le_refl _, Nat.zero_le _, .inl rfl, by simp⟩
  · simp only [List.cons.injEq, and_true] at hcs
    subst hcs hx
    simp only [if_true] at hz
    have hbl : (zs.take len).length = len := by simp; omega
    refine ⟨some a, cap, zs.take len, by rw [hbl], by rw [hbl]; exact hl, hm, ?_, fun z hz' => hwz z (List.mem_of_mem_take hz')⟩
    by_cases h0 : len = 0
    · left; subst h0; simp
    · right
      have hc0 := hcell 0 (by omega)
      obtain ⟨b, off, spot⟩ := a
      have hspot : spot = none := by simpa [Addr.add] using World.cell?_spot hc0
      subst hspot
      refine ⟨b, off, rfl, fun i z hz' => ?_⟩
      rw [List.getElem?_take] at hz'
      split at hz'
      · have hil : i < zs.length := (List.getElem?_eq_some_iff.1 hz').1
        have hc := hcell i hil
        have hadd : (⟨b, off, none⟩ : Addr).add i = ⟨b, off + i, none⟩ := by unfold Addr.add; split <;> simp_all
        rw [hadd] at hc
        rw [hc]; simp [List.getD, hz']
      · cases hz'

theorem sum_le {H : Type} (n : Nat) (D : Nat → DataW H) (f : Nat → List UInt8) (h : ∀ i, i < n → (f i).length ≤ Rows.uptoBulk (D i)) :
    ((List.range n).map f).flatten.length ≤ Rows.uptoBulkAll ((List.range n).map D) := by
  induction n with
  | zero => simp
  | succ n ih =>
    rw [List.range_succ, List.map_append, List.map_append, List.flatten_append, bulks.append, List.length_append]
    have h1 := ih (fun i hi => h i (by omega))
    have h2 := h n (by omega)
    simp only [List.map_cons, List.map_nil, List.flatten_cons, List.flatten_nil, List.append_nil, Rows.uptoBulkAll]
    omega

theorem open_rows2 {fuel : Nat} {v : Value} {x : DataW H × List MemPlace} (h : DataW.trod enc Try.prog w 0 (fun _ => true) held fuel 22 [v] = some x) :
    ∃ a L c, v = .slice a L.length c ∧ L.length ≤ c ∧ c ≤ maxLen ∧ Rows2 w a L ∧ L.length ≤ Rows.uptoBulk x.1 ∧ L.flatten.length ≤ Rows.uptoBulk x.1 := by
  rcases open_slice1 Try.underlying22 cells24 h with ⟨hcs, hx⟩ | ⟨a, len, cap, m, n, V, D, Pl, hcs, hb, hl, hm, hmm, rfl, hel⟩
  · simp only [List.cons.injEq, and_true] at hcs
    subst hcs
    exact ⟨none, [], 0, rfl, Nat.le_refl _, Nat.zero_le _, .inl rfl, by simp, by simp⟩
  · simp only [List.cons.injEq, and_true] at hcs
    subst hcs
    simp only [if_true] at hmm
    subst hmm
    have each : ∀ i, i < m → ∃ bs : List UInt8, Bs w (V i) bs ∧ bs.length ≤ Rows.uptoBulk (D i) := fun i hi => by
      obtain ⟨bs, c, h1, h2⟩ := open_bytes (hel i hi).2
      exact ⟨bs, h1.bs, h2⟩
    obtain ⟨f, hf⟩ := choose_lt each
    have h1 := sum_le len D f (fun i hi => (hf i (by omega)).2)
    have h2 := bulks.slice_elems (H := H) ((List.range len).map D) ((List.range (m - len)).map fun j => D (len + j))
    have h3 := bulks.length_le ((List.range len).map D)
    simp only [List.length_map, List.length_range] at h3
    refine ⟨some a, (List.range len).map f, m, by simp, by simpa using hl, hm, ?_, (by simp only [List.length_map, List.length_range]; show len ≤ Rows.uptoBulk (DataW.slice _ _); omega), (by show _ ≤ Rows.uptoBulk (DataW.slice _ _); omega)⟩
    by_cases h0 : len = 0
    · left; simp [h0]
    · right
      have hc0 := (hel 0 (by omega)).1
      obtain ⟨b, off, spot⟩ := a
      have hspot : spot = none := by simpa [Addr.add] using World.cell?_spot hc0
      subst hspot
      refine ⟨b, off, rfl, fun i bs hi => ?_⟩
      have hil : i < len := by
        have := (List.getElem?_eq_some_iff.1 hi).1
        simpa using this
      rw [List.getElem?_map, List.getElem?_range hil] at hi
      simp only [Option.map_some, Option.some.injEq] at hi
      subst hi
      have hc := (hel i (by omega)).1
      have hadd : (⟨b, off, none⟩ : Addr).add i = ⟨b, off + i, none⟩ := by unfold Addr.add; split <;> simp_all
      rw [hadd] at hc
      exact ⟨_, hc, (hf i (by omega)).1⟩
theorem bs_ofc {H : Type} {d : DataW H} {w : World} {v : Value} (F : ∃ bs c, Bsc w v bs c ∧ bs.length ≤ Rows.uptoBulk d) : ∃ bs, Bs w v bs :=
  let ⟨bs, _, h, _⟩ := F; ⟨bs, h.bs⟩
theorem cells31 : Try.prog.cellsOf 31 = 1 := by kernel_rfl
theorem cells3 : Try.prog.cellsOf 3 = 1 := by kernel_rfl
end
end Go.Proofs.Ytnckmaieghlpmaa
namespace Go.Proofs.Ytnckmaieghlpmaa
open Go.ChangeShapes Go.WideShapes Go.ChangeAt Go.RowKit Go.Deep
set_option linter.unusedVariables false

theorem cells4 : Try.prog.cellsOf 4 = 1 := by kernel_rfl
theorem cells52 : Try.prog.cellsOf 52 = 16 := by kernel_rfl
theorem cells54 : Try.prog.cellsOf 54 = 17 := by kernel_rfl
theorem cells61 : Try.prog.cellsOf 61 = 18 := by kernel_rfl
theorem cells25 : Try.prog.cellsOf 25 = 1 := by kernel_rfl

theorem take_one {α : Type} {l : List α} {i : Nat} {x : α} (h : (l.drop i).take 1 = [x]) : l[i]? = some x := by
  have h2 : ((l.drop i).take 1)[0]? = some x := by rw [h]; rfl
  rw [List.getElem?_take] at h2
  simpa using h2

theorem okWide_struct {P : Program} {w : World} {r : Reach} {base : Nat} {t : TypeId} {v : Value} {fs : Array Field} (ht : P.underlying t = some (.struct fs)) (hv : Value.okWide P w r base t v) : ∃ cs, v = .agg cs := by
  unfold Value.okWide at hv
  rw [ht] at hv
  obtain ⟨cs, h, _⟩ := hv
  exact ⟨cs, h⟩
section
variable {H : Type} {enc : TypeId × Value → H} {w : World} {held : Bool}
theorem adr_of {m : Nat} {cs : List Value} {x : DataW H × List MemPlace} (h : DataW.trod enc Try.prog w 0 (fun _ => true) held m 54 cs = some x) :
    ∃ s A, List.length A = 16 ∧ cs = (adrC s A).toList := by
  obtain ⟨y0, y1, n, rfl, hl, h0, h1⟩ := trod_struct2 Try.underlying54 h
  rw [cells54] at hl
  obtain ⟨b, hb, _⟩ := DataW.trod_bool Try.underlying4 h0
  obtain ⟨xs, m', _, _, _, hxl, hxs⟩ := DataW.trod_array Try.underlying52 h1
  have hb' : cs[0]? = some (.bool b) := by
    refine take_one ?_
    have hb2 : (cs.drop 0).take (Try.prog.cellsOf 4) = [.bool b] := hb
    rw [cells4] at hb2; exact hb2
  have each : ∀ i, i < 16 → ∃ y : UInt8, cs[i + 1]? = some (byteV y) := fun i hi => by
    have hx := hxs i hi
    rw [List.getElem?_eq_getElem (by omega)] at hx
    obtain ⟨z, hz, _, hw⟩ := DataW.trod_int Try.underlying5 hx
    have hz2 : ((((cs.drop 1).take (Try.prog.cellsOf 52)).drop (i * Try.prog.cellsOf 5)).take (Try.prog.cellsOf 5)) = [.int .u8 z] := hz
    rw [cells52, cells5, Nat.mul_one] at hz2
    have h3 := take_one hz2
    rw [List.getElem?_take] at h3
    rw [if_pos hi, List.getElem?_drop, Nat.add_comm 1 i] at h3
    exact ⟨byteOf z, by rw [h3, byteV, byteOf_wf hw]⟩
  obtain ⟨f, hf⟩ := choose_lt each
  refine ⟨b, (List.range 16).map f, by simp, ?_⟩
  rw [adr_list]
  apply List.ext_getElem?
  intro i
  match i with
  | 0 => rw [hb']; rfl
  | i + 1 =>
    by_cases hi : i < 16
    · rw [hf i hi, List.getElem?_cons_succ, List.getElem?_map, List.getElem?_map, List.getElem?_range hi]; rfl
    · rw [List.getElem?_eq_none (by omega), List.getElem?_eq_none (by simp; omega)]

set_option maxRecDepth 100000 in
theorem open_adr {base : Nat} {v : Value} {d : DataW H} {p : List MemPlace} (hv : Value.okWide Try.prog w .any base 54 v) (h : DataW.Trod enc Try.prog w 0 (fun _ => true) held 54 v d p) :
    ∃ s A, v = .agg (adrC s A) ∧ List.length A = 16 := by
  obtain ⟨cs, rfl⟩ := okWide_struct Try.underlying54 hv
  obtain ⟨m, hm⟩ := h
  obtain ⟨s, A, hA, hcs⟩ := adr_of hm
  refine ⟨s, A, ?_, hA⟩
  have : cs = adrC s A := Array.toList_inj.1 hcs
  rw [this]

set_option maxRecDepth 100000 in
theorem open_end {base : Nat} {v : Value} {d : DataW H} {p : List MemPlace} (hv : Value.okWide Try.prog w .any base 61 v) (h : DataW.Trod enc Try.prog w 0 (fun _ => true) held 61 v d p) :
    ∃ s A q, v = .agg (endC s A q) ∧ List.length A = 16 ∧ q < 65536 := by
  obtain ⟨cs, rfl⟩ := okWide_struct Try.underlying61 hv
  obtain ⟨m, hm⟩ := h
  obtain ⟨y0, y1, n, _, hl, h0, h1⟩ := trod_struct2 Try.underlying61 hm
  rw [cells61] at hl
  have hl' : cs.toList.length = 18 := hl
  obtain ⟨z, hz, _, hw⟩ := DataW.trod_int Try.underlying25 h1
  have h0' : DataW.trod enc Try.prog w 0 (fun _ => true) held n 54 (cs.toList.take 17) = some y0 := by
    have h2 : DataW.trod enc Try.prog w 0 (fun _ => true) held n 54 ((cs.toList.drop 0).take (Try.prog.cellsOf 54)) = some y0 := h0
    rw [cells54] at h2; exact h2
  have hz2 : (cs.toList.drop 17).take 1 = [.int .u16 z] := by
    have h2 : (cs.toList.drop 17).take (Try.prog.cellsOf 25) = [.int .u16 z] := hz
    rw [cells25] at h2; exact h2
  obtain ⟨s, A, hA, hcs⟩ := adr_of h0'
  have hx : 0 ≤ z ∧ z ≤ 65535 := by simpa [Lit.wf, IntKind.min, IntKind.max, IntKind.signed, IntKind.bits] using hw
  obtain ⟨q, rfl⟩ := Int.eq_ofNat_of_zero_le hx.1
  refine ⟨s, A, q, ?_, hA, by omega⟩
  have hd : cs.toList.drop 17 = [.int .u16 (q : Int)] := by
    rw [← hz2, List.take_of_length_le (by rw [List.length_drop]; omega)]
  have : cs = endC s A q := by
    apply Array.toList_inj.1
    rw [← List.take_append_drop 17 cs.toList, hcs, hd, adr_list]
    simp [endC]
  rw [this]
end
end Go.Proofs.Ytnckmaieghlpmaa
namespace Go.Proofs.Ytnckmaieghlpmaa
open Go.ChangeShapes Go.WideShapes Go.ChangeAt Go.RowKit Go.Deep
set_option linter.unusedVariables false

theorem cells90 : Try.prog.cellsOf 90 = 39 := by kernel_rfl
theorem cells38 : Try.prog.cellsOf 38 = 1 := by kernel_rfl
instance : Inhabited PartD := ⟨pt0 0 false []⟩
instance : Inhabited Value := ⟨.bool false⟩

section
variable {H : Type} {enc : TypeId × Value → H} {w : World} {held : Bool}
set_option maxRecDepth 100000 in
theorem part_of {m : Nat} {cs : List Value} {x : DataW H × List MemPlace} (h : DataW.trod enc Try.prog w 0 (fun _ => true) held m 90 cs = some x) :
    ∃ y : PartD × Value, cs = partL y.1 y.2 ∧ y.1.nm.fit ∧ Bs w y.2 y.1.bs ∧ -9223372036854775808 ≤ y.1.pos ∧ y.1.pos ≤ 9223372036854775807 := by
  obtain ⟨xs, n, _, _, hl, hxl, hf⟩ := DataW.trod_struct Try.underlying90 h
  rw [cells90] at hl
  have hx : ∀ i, i < 7 → ∃ y, xs[i]? = some y := fun i hi => ⟨xs[i]'(by rw [hxl]; exact hi), List.getElem?_eq_getElem _⟩
  obtain ⟨y0, e0⟩ := hx 0 (by decide)
  obtain ⟨y1, e1⟩ := hx 1 (by decide)
  obtain ⟨y2, e2⟩ := hx 2 (by decide)
  obtain ⟨y3, e3⟩ := hx 3 (by decide)
  obtain ⟨y4, e4⟩ := hx 4 (by decide)
  obtain ⟨y5, e5⟩ := hx 5 (by decide)
  obtain ⟨y6, e6⟩ := hx 6 (by decide)
  have f0 : DataW.trod enc Try.prog w 0 (fun _ => true) held n 54 ((cs.drop 0).take (Try.prog.cellsOf 54)) = some y0 := (hf 0 _ rfl).trans e0
  have f1 : DataW.trod enc Try.prog w 0 (fun _ => true) held n 54 ((cs.drop 17).take (Try.prog.cellsOf 54)) = some y1 := (hf 1 _ rfl).trans e1
  have f2 : DataW.trod enc Try.prog w 0 (fun _ => true) held n 5 ((cs.drop 34).take (Try.prog.cellsOf 5)) = some y2 := (hf 2 _ rfl).trans e2
  have f3 : DataW.trod enc Try.prog w 0 (fun _ => true) held n 38 ((cs.drop 35).take (Try.prog.cellsOf 38)) = some y3 := (hf 3 _ rfl).trans e3
  have f4 : DataW.trod enc Try.prog w 0 (fun _ => true) held n 3 ((cs.drop 36).take (Try.prog.cellsOf 3)) = some y4 := (hf 4 _ rfl).trans e4
  have f5 : DataW.trod enc Try.prog w 0 (fun _ => true) held n 4 ((cs.drop 37).take (Try.prog.cellsOf 4)) = some y5 := (hf 5 _ rfl).trans e5
  have f6 : DataW.trod enc Try.prog w 0 (fun _ => true) held n 24 ((cs.drop 38).take (Try.prog.cellsOf 24)) = some y6 := (hf 6 _ rfl).trans e6
  rw [cells54] at f0 f1
  rw [cells5] at f2
  rw [cells38] at f3
  rw [cells3] at f4
  rw [cells4] at f5
  rw [cells24] at f6
  obtain ⟨s1, A1, hA1, c0⟩ := adr_of f0
  obtain ⟨s2, A2, hA2, c1⟩ := adr_of f1
  obtain ⟨z2, c2, _, w2⟩ := DataW.trod_int Try.underlying5 f2
  obtain ⟨z3, c3, _, w3⟩ := DataW.trod_int Try.underlying38 f3
  obtain ⟨z4, c4, _, w4⟩ := DataW.trod_int Try.underlying3 f4
  obtain ⟨b5, c5, _⟩ := DataW.trod_bool Try.underlying4 f5
  obtain ⟨v, hv⟩ : ∃ v, (cs.drop 38).take 1 = [v] := by
    have : ((cs.drop 38).take 1).length = 1 := by rw [List.length_take, List.length_drop, hl]; rfl
    match (cs.drop 38).take 1, this with
    | [v], _ => exact ⟨v, rfl⟩
  rw [hv] at f6
  obtain ⟨bs, c, hb, _⟩ := open_bytes f6
  have r2 : 0 ≤ z2 ∧ z2 ≤ 255 := by simpa [Lit.wf, IntKind.min, IntKind.max, IntKind.signed, IntKind.bits] using w2
  have r3 : 0 ≤ z3 ∧ z3 ≤ 4294967295 := by simpa [Lit.wf, IntKind.min, IntKind.max, IntKind.signed, IntKind.bits] using w3
  have r4 : -9223372036854775808 ≤ z4 ∧ z4 ≤ 9223372036854775807 := by simpa [Lit.wf, IntKind.min, IntKind.max, IntKind.signed, IntKind.bits] using w4
  obtain ⟨q2, rfl⟩ := Int.eq_ofNat_of_zero_le r2.1
  obtain ⟨q3, rfl⟩ := Int.eq_ofNat_of_zero_le r3.1
  refine ⟨(⟨⟨s1, A1, s2, A2, q2, q3⟩, z4, b5, bs⟩, v), ?_, ⟨⟨hA1, hA2⟩, by show q2 < 256; omega, by show q3 < 4294967296; omega⟩, hb.bs, r4⟩
  have d38 : cs.drop 38 = [v] := by rw [← hv, List.take_of_length_le (by rw [List.length_drop, hl]; decide)]
  have t1 : ∀ i u, (cs.drop i).take 1 = [u] → cs.drop i = u :: cs.drop (i + 1) := fun i u hu => by
    have := List.take_append_drop 1 (cs.drop i)
    rw [hu, List.drop_drop] at this
    exact this.symm
  have d17 : cs = (adrC s1 A1).toList ++ cs.drop 17 := by
    have := List.take_append_drop 17 cs
    rw [List.drop_zero] at c0
    rw [c0] at this; exact this.symm
  have d34 : cs.drop 17 = (adrC s2 A2).toList ++ cs.drop 34 := by
    have := List.take_append_drop 17 (cs.drop 17)
    rw [c1, List.drop_drop] at this; exact this.symm
  rw [d17, d34, t1 34 _ c2, t1 35 _ c3, t1 36 _ c4, t1 37 _ c5, d38]
  simp [partL, nameL]

set_option maxRecDepth 100000 in
theorem open_part {base : Nat} {v : Value} {d : DataW H} {p : List MemPlace} (hv : Value.okWide Try.prog w .any base 90 v) (h : DataW.Trod enc Try.prog w 0 (fun _ => true) held 90 v d p) :
    ∃ (y : PartD) (u : Value), v = .agg (partA y u) ∧ y.nm.fit ∧ Bs w u y.bs ∧ -9223372036854775808 ≤ y.pos ∧ y.pos ≤ 9223372036854775807 := by
  obtain ⟨cs, rfl⟩ := okWide_struct Try.underlying90 hv
  obtain ⟨m, hm⟩ := h
  obtain ⟨y, hcs, hr⟩ := part_of hm
  refine ⟨y.1, y.2, ?_, hr⟩
  have : cs = partA y.1 y.2 := Array.toList_inj.1 hcs
  rw [this]

theorem open_parts {fuel : Nat} {v : Value} {x : DataW H × List MemPlace} (h : DataW.trod enc Try.prog w 0 (fun _ => true) held fuel 83 [v] = some x) :
    ∃ a L c, v = .slice a L.length c ∧ L.length ≤ c ∧ c ≤ 9223372036854775807 ∧ PsAt w a L ∧ PsArg w L := by
  rcases open_slice Try.underlying83 h with ⟨hcs, hx⟩ | ⟨a, len, cap, m, n, D, Pl, hcs, hb, hl, hm, hmm, rfl, hel⟩
  · simp only [List.cons.injEq, and_true] at hcs
    subst hcs
    exact ⟨none, [], 0, rfl, Nat.le_refl _, Nat.zero_le _, .inl rfl, fun x hx => by cases hx⟩
  · simp only [List.cons.injEq, and_true] at hcs
    subst hcs
    simp only [if_true] at hmm
    subst hmm
    rw [cells90] at hel
    have each : ∀ i, i < m → ∃ y : PartD × Value, (∀ j u, (partL y.1 y.2)[j]? = some u → w.cell? ((a.add (i * 39)).add j) = some u) ∧ y.1.nm.fit ∧ Bs w y.2 y.1.bs ∧ -9223372036854775808 ≤ y.1.pos ∧ y.1.pos ≤ 9223372036854775807 := fun i hi => by
      obtain ⟨cs', h1, h2⟩ := hel i hi
      obtain ⟨y, rfl, hr⟩ := part_of h2
      obtain ⟨_, hlen, hcell⟩ := World.cells?_some h1
      refine ⟨y, fun j u hu => ?_, hr⟩
      have hj := (List.getElem?_eq_some_iff.1 hu).1
      rw [hcell j (by omega)]; exact hu
    obtain ⟨f, hf⟩ := choose_lt each
    refine ⟨some a, (List.range len).map f, m, by simp, by simpa using hl, by unfold maxLen at hm; omega, ?_, fun y hy => ?_⟩
    · by_cases h0 : len = 0
      · left; simp [h0]
      · right
        have hc0 := (hf 0 (by omega)).1 0 (.bool (f 0).1.nm.s1) (by unfold partL nameL; rw [adr_list]; rfl)
        obtain ⟨b, off, spot⟩ := a
        have hspot : spot = none := by simpa [Addr.add] using World.cell?_spot hc0
        subst hspot
        refine ⟨b, off, rfl, fun i y hi => ?_⟩
        have hil : i < len := by
          have := (List.getElem?_eq_some_iff.1 hi).1
          simpa using this
        rw [List.getElem?_map, List.getElem?_range hil] at hi
        simp only [Option.map_some, Option.some.injEq] at hi
        subst hi
        intro j u hu
        have := (hf i (by omega)).1 j u hu
        rw [add_add, Addr.add_lit] at this
        rwa [show off + i * 39 + j = off + (i * 39 + j) by omega]
    · obtain ⟨i, hi, rfl⟩ := List.mem_map.1 hy
      exact (hf i (by have := List.mem_range.1 hi; omega)).2
end
end Go.Proofs.Ytnckmaieghlpmaa
