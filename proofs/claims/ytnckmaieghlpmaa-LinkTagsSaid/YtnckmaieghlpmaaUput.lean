/-
  The walk of udp.Put.
-/
import Derived.Test.YtnckmaieghlpmaaUref
import Derived.Test.YtnckmaieghlpmaaRev
import Derived.Deep.RegionHeld3
import Derived.Deep.DeepCutAuto
namespace Go.Proofs.Ytnckmaieghlpmaa
open Go.RowKit
set_option linter.unusedVariables false

/-- the cells of an address and a port -/
def endC (six : Bool) (A : List UInt8) (p : Nat) : Array Value := (Value.bool six :: (A.map byteV ++ [.int .u16 (p : Int)])).toArray
theorem end_adr {w : World} {g : Nat} {six : Bool} {A : List UInt8} {p : Nat} {t : TypeId} {fr : Nat × Nat} (h : w.heap[g]? = some (.cells (endC six A p) t fr)) : AdrAt w g 0 six A := fun j v hv => by
  rw [Nat.zero_add, cell_of_row w g j _ _ _ h, endC, List.getElem?_toArray]
  rw [adr_list] at hv
  rw [← List.cons_append, List.getElem?_append_left (List.getElem?_eq_some_iff.1 hv).1]; exact hv
theorem end_port {w : World} {g : Nat} {six : Bool} {A : List UInt8} {p : Nat} {t : TypeId} {fr : Nat × Nat} (h : w.heap[g]? = some (.cells (endC six A p) t fr)) (hA : A.length = 16) : w.cell? ⟨g, 17, none⟩ = some (.int .u16 (p : Int)) := by
  rw [cell_of_row w g 17 _ _ _ h, endC, List.getElem?_toArray, List.getElem?_cons_succ, List.getElem?_append_right (by simp [hA])]
  simp [hA]
theorem end_size (six : Bool) (A : List UInt8) (p : Nat) : (endC six A p).size = A.length + 2 := by simp [endC]

/-- a datagram's bytes but for its checksum -/
def udp0 (sp dp : Nat) (data : List UInt8) : List UInt8 := numB false sp 2 ++ numB false dp 2 ++ numB false (8 + data.length) 2 ++ [0, 0] ++ data
def udpS (six : Bool) (A B : List UInt8) (sp dp : Nat) (data : List UInt8) : Nat :=
  if csum (aheadB six A B (8 + data.length) ++ udp0 sp dp data) = 0 then 65535 else csum (aheadB six A B (8 + data.length) ++ udp0 sp dp data)
/-- a datagram's bytes -/
def udpB (six : Bool) (A B : List UInt8) (sp dp : Nat) (data : List UInt8) : List UInt8 :=
  numB false sp 2 ++ numB false dp 2 ++ numB false (8 + data.length) 2 ++ numB false (udpS six A B sp dp data) 2 ++ data
theorem udp0_len (sp dp : Nat) (data : List UInt8) : (udp0 sp dp data).length = 8 + data.length := by simp [udp0, numB_length]; omega
theorem udpB_len (six : Bool) (A B : List UInt8) (sp dp : Nat) (data : List UInt8) : (udpB six A B sp dp data).length = 8 + data.length := by simp [udpB, numB_length]; omega
theorem udpB_set (six : Bool) (A B : List UInt8) (sp dp : Nat) (data : List UInt8) :
    ((udp0 sp dp data).set 6 (UInt8.ofNat (udpS six A B sp dp data / 256 % 256))).set 7 (UInt8.ofNat (udpS six A B sp dp data % 256)) = udpB six A B sp dp data := by
  simp only [udp0, udpB, numB2]; rfl

/-- what Put returns -/
def PutRet (w : World) (P : List UInt8 → Prop) (e : Ending) (w' : World) : Prop :=
  ∃ Y a c, e = .returned (.tuple #[.slice a Y.length c, .int .i64 0]) ∧ P Y ∧ Own w' w.heap.size (.slice a Y.length c) Y ∧ Below w.heap.size w w' ∧ Y.length ≤ c ∧ c ≤ 9223372036854775807
def PutErr (w : World) (k : Nat) (e : Ending) (w' : World) : Prop :=
  e = .returned (.tuple #[.slice none 0 0, .int .i64 k]) ∧ Below w.heap.size w w'

/-- both ends in their blocks -/
structure EndsAt (w w2 : World) (s t : Bool) (A B : List UInt8) (sp dp : Nat) : Prop where
  one : AdrAt w2 w.heap.size 0 s A
  two : AdrAt w2 (w.heap.size + 1) 0 t B
  p1 : w2.cell? ⟨w.heap.size, 17, none⟩ = some (.int .u16 (sp : Int))
  p2 : w2.cell? ⟨w.heap.size + 1, 17, none⟩ = some (.int .u16 (dp : Int))
  sz : w2.heap.size = w.heap.size + 2
  bel : Below w.heap.size w w2
theorem ends_new (w : World) (s t : Bool) (A B : List UInt8) (sp dp : Nat) (hA : A.length = 16) (hB : B.length = 16) :
    EndsAt w ((w.alloc (.cells (endC s A sp) 61)).alloc (.cells (endC t B dp) 61)) s t A B sp dp := by
  have h1 := heap_alloc2_old w (.cells (endC s A sp) 61) (.cells (endC t B dp) 61)
  have h2 := heap_alloc2_new w (.cells (endC s A sp) 61) (.cells (endC t B dp) 61)
  exact ⟨end_adr h1, end_adr h2, end_port h1 hA, end_port h2 hB, by simp, ((Below.refl _ _).alloc (Nat.le_refl _) _).alloc (by simp) _⟩
theorem Bs.keepB {w w' : World} {v : Value} {bs : List UInt8} {B : Nat} (h : Bs w v bs) (hb : Below B w w') (hB : w.heap.size ≤ B) : Bs w' v bs := h.same fun p v hv => by
  rw [hb.cell (Nat.lt_of_lt_of_le (World.block_lt_of_cell? w p hv) hB)]; exact hv

theorem up_size {W : Nat} {w2 w' : World} (hs : w2.heap.size = W + 2) (h : Below (W + 2) w2 w') : W + 2 ≤ w'.heap.size := hs ▸ h.size
theorem up_call {W : Nat} {w2 w' w'' : World} (hs : w2.heap.size = W + 2) (hb : Below w'.heap.size w' w'') (h : Below (W + 2) w2 w') : Below (W + 2) w2 w'' := h.trans (hb.mono (up_size hs h))
theorem up_alloc {W : Nat} {w2 w' : World} (hs : w2.heap.size = W + 2) (o : Obj) (h : Below (W + 2) w2 w') : Below (W + 2) w2 (w'.alloc o) := h.alloc (up_size hs h) o
theorem up_set {W g : Nat} {w2 w' : World} (u u' : Value) (hg : W + 2 ≤ g) (h : Below (W + 2) w2 w') : Below (W + 2) w2 ((w'.setCell ⟨g, 0, none⟩ u).setCell ⟨g, 1, none⟩ u') := (h.setCell hg _).setCell hg _
/-- a new row in its block, nothing put in yet -/
def HdAt (w : World) (g : Nat) : Prop := w.heap[g]? = some (.cells #[.slice none 0 0, .bool false] 30 (0, 0))
def HdOk (w : World) (g n : Nat) : Prop := HdAt w g ∧ g < n
theorem hd_first {X w' : World} (b : Below (X.alloc (.cells #[.slice none 0 0, .bool false] 30)).heap.size (X.alloc (.cells #[.slice none 0 0, .bool false] 30)) w') : HdOk w' X.heap.size (X.alloc (.cells #[.slice none 0 0, .bool false] 30)).heap.size :=
  ⟨(b.block _ (by simp)).trans (heap_alloc_new _ _), by simp⟩
theorem hd_next {w w' : World} {g n : Nat} (b : Below w.heap.size w w') (h : HdOk w g n) : HdOk w' g w.heap.size := ⟨(b.block _ (lt_of_block h.1)).trans h.1, lt_of_block h.1⟩
theorem up_relA {W : Nat} {w2 w7 : World} {base : Nat} {Y : List UInt8} {a : Option Addr} {c : Nat} (hb : W + 2 ≤ base) (o : Own w7 base (.slice a Y.length c) Y) (h : Below (W + 2) w2 (w7.alloc (.cells #[.slice a Y.length c, .bool false] 30))) :
    (w7.alloc (.cells #[.slice a Y.length c, .bool false] 30)).cell? ⟨w7.heap.size, 0, none⟩ = some (.slice a Y.length c) ∧ Own (w7.alloc (.cells #[.slice a Y.length c, .bool false] 30)) (W + 2) (.slice a Y.length c) Y ∧ Below (W + 2) w2 (w7.alloc (.cells #[.slice a Y.length c, .bool false] 30)) :=
  ⟨World.cell?_alloc_new .., (o.alloc _).mono hb, h⟩
theorem up_relB {W g : Nat} {w2 w7 : World} {base : Nat} {Y : List UInt8} {a : Option Addr} {c : Nat} (hb : W + 2 ≤ base) (hg : g < base) (hd : HdAt w7 g) (o : Own w7 base (.slice a Y.length c) Y)
    (h : Below (W + 2) w2 ((w7.setCell ⟨g, 0, none⟩ (.slice a Y.length c)).setCell ⟨g, 1, none⟩ (.bool false))) :
    ((w7.setCell ⟨g, 0, none⟩ (.slice a Y.length c)).setCell ⟨g, 1, none⟩ (.bool false)).cell? ⟨g, 0, none⟩ = some (.slice a Y.length c) ∧ Own ((w7.setCell ⟨g, 0, none⟩ (.slice a Y.length c)).setCell ⟨g, 1, none⟩ (.bool false)) (W + 2) (.slice a Y.length c) Y ∧
      Below (W + 2) w2 ((w7.setCell ⟨g, 0, none⟩ (.slice a Y.length c)).setCell ⟨g, 1, none⟩ (.bool false)) := by
  refine ⟨?_, (own_set (own_set o (by exact hg) _) (by exact hg) _).mono hb, h⟩
  have h1 := heap_setCell_same w7 g 0 _ 30 (.slice a Y.length c) hd
  have h2 := heap_setCell_same _ g 1 _ 30 (.bool false) h1
  rw [cell_of_row _ g 0 _ _ _ h2]; rfl
theorem up_ports {W sp dp : Nat} {w2 w'' : World} (h1 : w2.cell? ⟨W, 17, none⟩ = some (.int .u16 (sp : Int))) (h2 : w2.cell? ⟨W + 1, 17, none⟩ = some (.int .u16 (dp : Int))) (h : Below (W + 2) w2 w'') :
    w''.cell? ⟨W, 17, none⟩ = some (.int .u16 (sp : Int)) ∧ w''.cell? ⟨W + 1, 17, none⟩ = some (.int .u16 (dp : Int)) ∧ Below (W + 2) w2 w'' :=
  ⟨(h.cell (p := ⟨W, 17, none⟩) (by show W < W + 2; omega)).trans h1, (h.cell (p := ⟨W + 1, 17, none⟩) (by show W + 1 < W + 2; omega)).trans h2, h⟩

set_option maxRecDepth 100000 in
set_option maxHeartbeats 1000000 in
theorem uput_no (w : World) (s t : Bool) (A B : List UInt8) (sp dp : Nat) (v : Value) (bs : List UInt8) (hA : A.length = 16) (hB : B.length = 16) (hb : Bs w v bs) (hl : bs.length ≤ 300) (hst : s ≠ t) :
    Calls Try.prog 40 #[.agg (endC s A sp), .agg (endC t B dp), v] w (PutErr w 2) := by
  have hst' : (s != t) = true := by simpa using hst
  have HE : Hid (EndsAt w _ s t A B sp dp) := ends_new w s t A B sp dp hA hB
  have HA := Lib.hid hA
  have HB := Lib.hid hB
  obtain ⟨a, c, rfl, hl1, hl2, hat⟩ := hb
  unfold maxLen at hl2
  clear hat hA hB hst
  go_enter Try.func40, Try.ntmps40
  go_wp2_with (first | ((with_reducible refine wpList_load54 w.heap.size 0 s A ?_ ?_ ?_ ?_); rfl; exact HE.out.one; exact HA.out) | ((with_reducible refine wpList_load54 (w.heap.size + 1) 0 t B ?_ ?_ ?_ ?_); rfl; exact HE.out.two; exact HB.out))
  refine (mixed_any _ s t A B).mono ?_
  rintro e w2 ⟨rfl, hb2⟩
  rw [hst']
  have HX : Hid (Below w.heap.size w w2) := HE.out.bel.trans (hb2.mono HE.out.bel.size)
  clear hb2 hst'
  go_wp2_with fail
  go_ret2
  exact ⟨rfl, HX.out⟩

set_option maxRecDepth 100000 in
set_option maxHeartbeats 2000000 in
theorem uput_yes (w : World) (s : Bool) (A B : List UInt8) (sp dp : Nat) (v : Value) (bs : List UInt8) (hA : A.length = 16) (hB : B.length = 16) (hb : Bs w v bs) (hl : bs.length ≤ 300) (hsp : sp < 65536) (hdp : dp < 65536) :
    Calls Try.prog 40 #[.agg (endC s A sp), .agg (endC s B dp), v] w (PutRet w (· = udpB s A B sp dp bs)) := by
  have HE : Hid (EndsAt w _ s s A B sp dp) := ends_new w s s A B sp dp hA hB
  have HBS := Lib.hid hb
  have HA := Lib.hid hA
  have HB := Lib.hid hB
  obtain ⟨a, c, rfl, hl1, hl2, hat⟩ := hb
  unfold maxLen at hl2
  clear hat hA hB
  obtain ⟨X, hX⟩ : ∃ X, X = udpB s A B sp dp bs := ⟨_, rfl⟩
  rw [← hX]
  have HX := Lib.hid hX
  clear hX
  go_enter Try.func40, Try.ntmps40
  go_wp2_with (first | ((with_reducible refine wpList_load54 w.heap.size 0 s A ?_ ?_ ?_ ?_); rfl; exact HE.out.one; exact HA.out) | ((with_reducible refine wpList_load54 (w.heap.size + 1) 0 s B ?_ ?_ ?_ ?_); rfl; exact HE.out.two; exact HB.out))
  generalize (w.alloc (.cells (endC s A sp) 61)).alloc (.cells (endC s B dp) 61) = w2 at HE ⊢
  have hsz := HE.out.sz
  obtain ⟨W, hW⟩ : ∃ W, W = w.heap.size := ⟨_, rfl⟩
  have HW := Lib.hid hW
  have HE' : Hid (AdrAt w2 W 0 s A ∧ AdrAt w2 (W + 1) 0 s B ∧ w2.cell? ⟨W, 17, none⟩ = some (.int .u16 (sp : Int)) ∧ w2.cell? ⟨W + 1, 17, none⟩ = some (.int .u16 (dp : Int)) ∧ w2.heap.size = W + 2) := by
    rw [hW]; exact ⟨HE.out.one, HE.out.two, HE.out.p1, HE.out.p2, HE.out.sz⟩
  have HBS2 : Hid (Bs w2 (.slice a bs.length c) bs) := HBS.out.keepB HE.out.bel (Nat.le_refl _)
  rw [← hW]
  clear hsz hW
  refine (mixed_any _ s s A B).mono ?_
  rintro e w3 ⟨rfl, hb3⟩
  rw [show (s != s) = false by simp]
  have L3 : Hid (Below (W + 2) w2 w3) := by
    have := HE'.out.2.2.2.2; rw [this] at hb3; exact hb3
  clear hb3
  go_upto_region 6 with fail
  obtain ⟨nn, hnn⟩ : ∃ nn : Nat, nn = 8 + bs.length := ⟨_, rfl⟩
  have hn16 : nn < 65536 := by omega
  have g1 : IntKind.u64.wrap (sp : Int) = (sp : Int) := Go.wraps_u64 _ (by omega) (by omega)
  have g2 : IntKind.u64.wrap (dp : Int) = (dp : Int) := Go.wraps_u64 _ (by omega) (by omega)
  have g3 : IntKind.u64.wrap (8 + (bs.length : Int)) = (nn : Int) := by rw [Go.wraps_u64 _ (by omega) (by omega)]; omega
  have HNN := Lib.hid hnn
  clear hnn
  have tok1 : True := trivial
  have tok2 : True := trivial
  have tok3 : True := trivial
  have tok4 : True := trivial
  go_cut [9] (fun s9 wx => ∃ (g : Nat) (Y : List UInt8) (a1 : Option Addr) (c1 : Nat), s9 = .pointer (some ⟨g, 0, none⟩) ∧ wx.cell? ⟨g, 0, none⟩ = some (.slice a1 Y.length c1) ∧
    Hid (Y = numB false sp 2 ++ numB false dp 2 ++ numB false nn 2 ++ [0, 0] ∧ Own wx (W + 2) (.slice a1 Y.length c1) Y ∧ Below (W + 2) w2 wx))
  case first =>
    go_region_held3 (fun w' => w'.cell? ⟨W, 17, none⟩ = some (.int .u16 (sp : Int)) ∧ w'.cell? ⟨W + 1, 17, none⟩ = some (.int .u16 (dp : Int)) ∧ Below (W + 2) w2 w')
      ((go_split_ands; refine up_ports HE'.out.2.2.1 HE'.out.2.2.2.1 ?_; first
        | exact L3.out.drew
        | exact up_call HE'.out.2.2.2.2 (by assumption) (by assumption)
        | exact up_alloc HE'.out.2.2.2.2 _ (by assumption)
        | exact up_set _ _ (up_size HE'.out.2.2.2.2 (by assumption)) (by assumption)
        | fail))
      (first
        | (go_at_call 33; have _t := tok1; go_split_ands; refine (put' _ _ [] false sp 2 (own_nil _ 0).bs (by simp) (by omega) (by omega)).mono ?_; rintro e w4 ⟨Y1, a1, c1, rfl, e1, o1, b1, q1, q2⟩; have E1 := Lib.hid e1; have O1 := Lib.hid o1.bs; (first | (have G1 : HdOk _ w3.heap.size _ := hd_first (X := w3) ⟨b1.os, b1.tape, b1.output, b1.size, b1.block⟩; have gc1 := two_cells G1.1) | skip); have P1 := up_call HE'.out.2.2.2.2 b1 (by assumption); clear tok1 e1 o1; dsimp only)
        | (go_at_call 33; have _t := tok2; go_split_ands; refine (put' _ _ Y1 false dp 2 (by first | exact O1.out | exact O1.out.alloc _) (by rw [E1.out]; simp [numB_length]) (by omega) (by omega)).mono ?_; rintro e w5 ⟨Y2, a2, c2, rfl, e2, o2, b2, q3, q4⟩; have E2 := Lib.hid e2; have O2 := Lib.hid o2.bs; (first | (have G2 := hd_first b2; have gc2 := two_cells G2.1) | (have G2 := hd_next b2 G1; have gc2 := two_cells G2.1) | skip); have P2 := up_call HE'.out.2.2.2.2 b2 (by assumption); clear tok2 e2 o2; dsimp only)
        | (go_at_call 33; have _t := tok3; go_split_ands; refine (put' _ _ Y2 false nn 2 (by first | exact O2.out | exact O2.out.alloc _) (by rw [E2.out, E1.out]; simp [numB_length]) (by omega) (by omega)).mono ?_; rintro e w6 ⟨Y3, a3, c3, rfl, e3, o3, b3, q5, q6⟩; have E3 := Lib.hid e3; have O3 := Lib.hid o3.bs; (first | (have G3 := hd_first b3; have gc3 := two_cells G3.1) | (have G3 := hd_next b3 G2; have gc3 := two_cells G3.1) | skip); have P3 := up_call HE'.out.2.2.2.2 b3 (by assumption); clear tok3 e3 o3; dsimp only)
        | (go_at_call 33; have _t := tok4; go_split_ands; refine (put' _ _ Y3 false 0 2 (by first | exact O3.out | exact O3.out.alloc _) (by rw [E3.out, E2.out, E1.out]; simp [numB_length]) (by omega) (by omega)).mono ?_; rintro e w7 ⟨Y4, a4, c4, rfl, e4, o4, b4, q7, q8⟩; have E4 := Lib.hid e4; have O4 := Lib.hid o4; (first | (have G4 := hd_first b4; have gc4 := two_cells G4.1) | (have G4 := hd_next b4 G3; have gc4 := two_cells G4.1) | skip); have P4 := up_call HE'.out.2.2.2.2 b4 (by assumption); clear tok4 e4 o4; dsimp only)
        | fail)
    all_goals
      go_wp2_with fail
      go_meet
    all_goals
      refine ⟨_, Y4, a4, c4, rfl, ?_⟩
      have hY : Y4 = numB false sp 2 ++ numB false dp 2 ++ numB false nn 2 ++ [0, 0] := by
        have q1 : Y1 = [] ++ numB false sp 2 := E1.out
        have q2 : Y2 = Y1 ++ numB false dp 2 := E2.out
        have q3 : Y3 = Y2 ++ numB false nn 2 := E3.out
        have q4 : Y4 = Y3 ++ numB false 0 2 := E4.out
        rw [q4, q3, q2, q1]; rfl
      rename_i hh
      first
        | (have hr := up_relA (by first | exact up_size HE'.out.2.2.2.2 (by assumption) | (simp; exact Nat.le_succ_of_le (up_size HE'.out.2.2.2.2 (by assumption)))) O4.out hh.2.2; exact ⟨hr.1, hY, hr.2.1, hr.2.2⟩)
        | (have hr := up_relB (by first | exact up_size HE'.out.2.2.2.2 (by assumption) | (simp; exact Nat.le_succ_of_le (up_size HE'.out.2.2.2.2 (by assumption)))) G4.2 G4.1 O4.out hh.2.2; exact ⟨hr.1, hY, hr.2.1, hr.2.2⟩)
  case rest =>
    obtain ⟨g, Y, a1, c1, rfl, hc, HY⟩ := hcut
    have hYl : Y.length = 8 := by rw [HY.out.1]; simp [numB_length]
    have HYL := Lib.hid hYl
    have HBc : Hid (Bs wc (.slice a bs.length c) bs) := HBS2.out.keepB HY.out.2.2 (Nat.le_of_eq HE'.out.2.2.2.2)
    have HSc := Lib.hid (up_size HE'.out.2.2.2.2 HY.out.2.2)
    clear hYl g1 g2 g3 L3 HBS
    go_wp2_with (first
      | (at_builtin; refine wpList_app' rfl _ _ rfl (W + 2) _ Y rfl HY.out.2.1 _ bs rfl HBc.out (by rw [HYL.out]; omega) HSc.out ?_; intro Y2 a2 c2 w8 E2 O2 L2 N2 hc2; have L8 : Hid (Below (W + 2) w2 w8) := HY.out.2.2.trans L2.out)
      | ((with_reducible refine wpList_load54 W 0 s A ?_ ?_ ?_ ?_); rfl; exact HE'.out.1.keep L8.out (by omega); exact HA.out)
      | ((with_reducible refine wpList_load54 (W + 1) 0 s B ?_ ?_ ?_ ?_); rfl; exact HE'.out.2.1.keep L8.out (by omega); exact HB.out))
    have hY2 : Y2 = udp0 sp dp bs := by
      have q1 : Y2 = Y ++ bs := E2.out
      rw [q1, HY.out.1, udp0, HNN.out]
    have hY2l : Y2.length = nn := by rw [hY2, udp0_len, HNN.out]
    obtain ⟨C, hC⟩ : ∃ C, C = csum (aheadB s A B Y2.length ++ Y2) := ⟨_, rfl⟩
    have hS : udpS s A B sp dp bs = if C = 0 then 65535 else C := by rw [hC, hY2l, hY2, HNN.out]; rfl
    have hC16 : C ≤ 65535 := by rw [hC]; unfold csum; omega
    obtain ⟨gb, cap, he, hgb1, hgb2, hgb3, hgb4⟩ : ∃ gb cap, Value.slice a2 Y2.length c2 = .slice (some ⟨gb, 0, none⟩) Y2.length cap ∧ W + 2 ≤ gb ∧ gb < w8.heap.size ∧ Y2.length ≤ cap ∧ cap ≤ maxLen := by
      rcases O2.out.shape with ⟨_, h⟩ | h
      · rw [h] at hY2l; simp at hY2l; have := HNN.out; omega
      · exact h
    simp only [Value.slice.injEq, true_and] at he
    obtain ⟨rfl, rfl⟩ := he
    have HC := Lib.hid hC
    have HS := Lib.hid hS
    have HY2 := Lib.hid hY2
    have HY2L := Lib.hid hY2l
    have hge8 : 8 ≤ Y2.length := by rw [hY2l, HNN.out]; omega
    have HG := Lib.hid hgb2
    clear hC hS hY2 hY2l hgb2 hgb4
    refine (usum_any _ s s A B _ Y2 HA.out HB.out O2.out.bs (by rw [HY2L.out]; omega)).mono ?_
    rintro e w9 ⟨rfl, hb9⟩
    rw [← HC.out]
    have O9 : Hid (Own w9 (W + 2) (.slice (some ⟨gb, 0, none⟩) Y2.length c2) Y2) := O2.out.below hb9
    have L9 : Hid (Below (W + 2) w2 w9) := up_call HE'.out.2.2.2.2 hb9 L8.out
    have x6 := own_cell O9.out (j := 6) (x := Y2[6]'(by omega)) (by rw [List.getElem?_eq_getElem])
    have x7 := own_cell O9.out (j := 7) (x := Y2[7]'(by omega)) (by rw [List.getElem?_eq_getElem])
    have f6 := own_free O9.out 6
    have f7 := own_free O9.out 7
    have i6 : (6 : Int) < (Y2.length : Int) := by omega
    have i7 : (7 : Int) < (Y2.length : Int) := by omega
    have hXl : X.length = Y2.length := by rw [HX.out, udpB_len, HY2L.out, HNN.out]
    have HXL := Lib.hid hXl
    clear hb9 hXl
    by_cases hc0 : C = 0
    · have hset : (Y2.set 6 255).set 7 255 = X := by
        have q := udpB_set s A B sp dp bs
        rw [HS.out, if_pos hc0] at q
        rw [HX.out, ← q, HY2.out]; rfl
      have hfin := own_store' (own_store' O9.out 6 255) 7 255
      rw [hset] at hfin
      have HF := Lib.hid hfin
      subst hc0
      clear hset hfin HC HS
      go_wp2_with fail
      go_ret2
      refine ⟨X, some ⟨gb, 0, none⟩, c2, by rw [HXL.out]; rfl, rfl, HF.out.mono (by rw [HW.out]; omega), ?_, by rw [HXL.out]; exact hgb3, hc2.2⟩
      rw [← HW.out]
      exact (((HW.out ▸ HE.out.bel : Below W w w2).trans (L9.out.mono (by omega))).setCell (by show W ≤ gb; omega) _).setCell (by show W ≤ gb; omega) _
    · obtain ⟨hi, hhi⟩ : ∃ hi, hi = UInt8.ofNat (C / 256 % 256) := ⟨_, rfl⟩
      obtain ⟨lo, hlo⟩ : ∃ lo, lo = UInt8.ofNat (C % 256) := ⟨_, rfl⟩
      have e1 : (C : Int) / 256 = (hi.toNat : Int) := by rw [hhi]; simp; omega
      have e2 : IntKind.u8.wrap (C : Int) = (lo.toNat : Int) := by rw [hlo, IntKind.wrap_u8]; simp
      have hset : (Y2.set 6 hi).set 7 lo = X := by
        have q := udpB_set s A B sp dp bs
        rw [HS.out, if_neg hc0] at q
        rw [HX.out, ← q, HY2.out, hhi, hlo]
      have hfin := own_store' (own_store' O9.out 6 hi) 7 lo
      rw [hset] at hfin
      have HF := Lib.hid hfin
      have hbyt : hi.toNat < 256 := hi.toNat_lt
      have z1 : ((C : Int) == 0) = false := by simp; omega
      clear hset hfin HC HS hhi hlo hc0
      go_wp2_with fail
      go_ret2
      refine ⟨X, some ⟨gb, 0, none⟩, c2, by rw [HXL.out]; rfl, rfl, HF.out.mono (by rw [HW.out]; omega), ?_, by rw [HXL.out]; exact hgb3, hc2.2⟩
      rw [← HW.out]
      exact (((HW.out ▸ HE.out.bel : Below W w w2).trans (L9.out.mono (by omega))).setCell (by show W ≤ gb; omega) _).setCell (by show W ≤ gb; omega) _

end Go.Proofs.Ytnckmaieghlpmaa
