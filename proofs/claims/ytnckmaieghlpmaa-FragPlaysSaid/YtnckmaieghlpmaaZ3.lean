/-
  slices.IndexFunc and slices.ContainsFunc over parts.
  Two names of packets, compared by ==.
  Packets in a row; slices.IndexFunc over them.
  slices.Insert of one part.
  slices.Insert of one part ahead of others: in place.
  slices.Insert of one part ahead of others: no room.
  slices.Insert of one part, anywhere.
-/
import Derived.Test.YtnckmaieghlpmaaPmay
import Derived.DeepKeys
import Derived.Maps.AppendAt
import Derived.Laws.OwnMore
import Derived.Lib.Overlaps
import Derived.Lib.AppendZerosOnto
import Derived.Shelf.Spec.SlicesInsert
namespace Go.Proofs.Ytnckmaieghlpmaa
open Go.RowKit
set_option linter.unusedVariables false
attribute [local go_sem ↓] fold_ld90 fold_st90 Go.wp_at_zero Go.wp_at_succ
attribute [local go_sem] ld90_at st90_at

/-- parts lie in a row from an address on -/
def PsAt (w : World) (a : Option Addr) (L : List (PartD × Value)) : Prop :=
  L = [] ∨ ∃ b o, a = some ⟨b, o, none⟩ ∧ ∀ i x, L[i]? = some x → PtAt w b (o + i * 39) x.1 x.2
theorem PsAt.below {w w' : World} {a : Option Addr} {L : List (PartD × Value)} (h : PsAt w a L) (hb : Below w.heap.size w w') : PsAt w' a L := by
  rcases h with h | ⟨b, o, e, h⟩
  · exact .inl h
  · exact .inr ⟨b, o, e, fun i x hx => (h i x hx).below hb⟩

set_option maxHeartbeats 400000 in
theorem take3_any (w : World) (g : Nat) (p q : PartD) (v u : Value) (hp : p.nm.ok) (hq : q.nm.ok) (hv : Bs w v p.bs) (hu : Bs w u q.bs) (hg : PtAt w g 0 p v) :
    Calls Try.prog 71 #[.agg (partA q u), .pointer (some ⟨g, 0, none⟩)] w (ClRet w (sameB p q)) := by
  have HN := Lib.hid (below_alloc w (.cells (partA q u) 90))
  have g1 := (hg.alloc (.cells (partA q u) 90)).has hp
  have g2 := (hg.alloc (.cells (partA q u) 90)).rd hp
  have hn := ptAt_new w q u 90
  have g3 := hn.has hq
  have g4 := hn.rd hq
  have HS := Lib.hid (same_any (w.alloc (.cells (partA q u) 90)) p q v u hp hq (hv.alloc _) (hu.alloc _))
  clear hp hq hv hu hg hn
  go_enter Try.func71, Try.ntmps71
  go_wp2_with fail
  refine HS.out.mono ?_
  rintro e w1 ⟨rfl, hb1⟩
  have HB1 := Lib.hid hb1
  clear hb1
  go_wp2_with fail
  go_ret
  exact ⟨rfl, below_past HB1.out⟩
set_option maxHeartbeats 400000 in
theorem take4_any (w : World) (g : Nat) (p q : PartD) (v u : Value) (hp : p.nm.ok) (hq : q.nm.ok) (hv : Bs w v p.bs) (hu : Bs w u q.bs) (fp : Fits p) (fq : Fits q) (hg : PtAt w g 0 p v) :
    Calls Try.prog 73 #[.agg (partA q u), .pointer (some ⟨g, 0, none⟩)] w (ClRet w (clashB p q)) := by
  have HN := Lib.hid (below_alloc w (.cells (partA q u) 90))
  have g1 := (hg.alloc (.cells (partA q u) 90)).has hp
  have g2 := (hg.alloc (.cells (partA q u) 90)).rd hp
  have hn := ptAt_new w q u 90
  have g3 := hn.has hq
  have g4 := hn.rd hq
  have HS := Lib.hid (clash_any (w.alloc (.cells (partA q u) 90)) p q v u hp hq (hv.alloc _) (hu.alloc _) fp fq)
  clear hp hq hv hu hg hn fp fq
  go_enter Try.func73, Try.ntmps73
  go_wp2_with fail
  refine HS.out.mono ?_
  rintro e w1 ⟨rfl, hb1⟩
  have HB1 := Lib.hid hb1
  clear hb1
  go_wp2_with fail
  go_ret
  exact ⟨rfl, below_past HB1.out⟩

theorem _root_.Go.RowKit.Below.then {w wr w1 : World} (h : Below w.heap.size w wr) (k : Below wr.heap.size wr w1) : Below w.heap.size w w1 := h.trans (k.mono h.size)
/-- the place of the first element that does -/
def ixR {α : Type} (B : α → Bool) (L : List α) : Int := match L.findIdx? B with | none => -1 | some i => (i : Int)
theorem ixR_none {α : Type} {B : α → Bool} {L : List α} (h : ∀ (j : Nat) (x : α), L[j]? = some x → B x = false) : ixR B L = -1 := by
  unfold ixR
  rw [List.findIdx?_eq_none_iff.2 (fun x hx => by
    obtain ⟨j, hj⟩ := List.getElem?_of_mem hx
    exact h j x hj)]
theorem ixR_some {α : Type} {B : α → Bool} {L : List α} {k : Nat} {y : α} (hy : L[k]? = some y) (hb : B y = true) (h : ∀ (j : Nat) (x : α), L[j]? = some x → j < k → B x = false) : ixR B L = k := by
  unfold ixR
  have hk : k < L.length := by
    by_cases hk : k < L.length
    · exact hk
    · rw [List.getElem?_eq_none (by omega)] at hy; cases hy
  rw [List.findIdx?_eq_some_iff_getElem.2 ⟨hk, by rw [List.getElem?_eq_getElem hk] at hy; cases hy; exact hb, fun j hj => by
    have := h j _ (List.getElem?_eq_getElem (by omega)) hj
    simp [this]⟩]

set_option maxHeartbeats 1000000 in
theorem ixparts_any (w : World) (f : Nat) (hf : ∀ args w, (callFunc f args).run Try.prog w = .ok (.enter f args) w) (q : Value) (a : Option Addr) (c : Nat) (L : List (PartD × Value)) (B : PartD × Value → Bool) (hl : L.length ≤ c) (hc : c ≤ 9223372036854775807) (hL : PsAt w a L) (hok : ∀ x ∈ L, x.1.nm.ok)
    (hB : ∀ x ∈ L, ∀ wr, Below w.heap.size w wr → Calls Try.prog f #[.agg (partA x.1 x.2), q] wr (ClRet wr (B x))) :
    Calls Try.prog 86 #[.slice a L.length c, .func (.func f) #[] #[q]] w fun e w' => e = .returned (.int .i64 (ixR B L)) ∧ Below w.heap.size w w' := by
  have HB := Lib.hid hB
  have HL := Lib.hid hL
  have HK := Lib.hid hok
  clear hB hL hok
  obtain ⟨n, hn⟩ : ∃ n, n = L.length := ⟨_, rfl⟩
  rw [← hn] at hl ⊢
  have HNN := Lib.hid hn
  clear hn
  obtain ⟨R, hR⟩ : ∃ R, R = ixR B L := ⟨_, rfl⟩
  rw [← hR]
  have HR := Lib.hid hR
  clear hR
  go_enter Try.func86, Try.ntmps86
  go_wp2_with fail
  go_loopw [8] (fun i wr => ∃ k : Nat, i = .int .i64 k ∧ k ≤ n ∧ Hid ((∀ j x, L[j]? = some x → j < k → B x = false) ∧ Below w.heap.size w wr)) (fun i _ => n - (intOf i).toNat)
  case atStart => exact ⟨0, rfl, Nat.zero_le _, fun j x _ h => absurd h (by omega), Below.refl _ _⟩
  case round =>
    obtain ⟨k, rfl, hk, HX⟩ := hrel
    by_cases hlt : k < n
    · obtain ⟨x, hx⟩ : ∃ x, L[k]? = some x := ⟨L[k]'(by rw [← HNN.out]; exact hlt), by rw [List.getElem?_eq_getElem]⟩
      obtain ⟨b, o, rfl, hps⟩ : ∃ b o, a = some ⟨b, o, none⟩ ∧ ∀ i x, L[i]? = some x → PtAt w b (o + i * 39) x.1 x.2 := by
        rcases HL.out with h | h
        · rw [h] at hx; simp at hx
        · exact h
      have hm : x ∈ L := List.mem_of_getElem? hx
      have hp := (hps k x hx).below HX.out.2
      have h1 := hp.has (HK.out x hm)
      have h2 := hp.rd (HK.out x hm)
      have HC := Lib.hid (HB.out x hm _ HX.out.2)
      have HXX := Lib.hid hx
      clear hp hps hx hm
      go_wp2_with fail
      refine HC.out.mono ?_
      rintro e w1 ⟨rfl, hb1⟩
      have HB1 := Lib.hid (HX.out.2.then hb1)
      clear hb1
      obtain ⟨r, hr⟩ : ∃ r, r = B x := ⟨_, rfl⟩
      rw [← hr]
      have HRR := Lib.hid hr
      clear hr
      rcases r with _ | _
      · go_wp2_with fail
        go_roundw
        case rel =>
          refine ⟨k + 1, by go_num, by omega, fun j y hy hj => ?_, HB1.out⟩
          by_cases hjk : j = k
          · subst hjk
            rw [HXX.out] at hy; cases hy; exact HRR.out.symm
          · exact HX.out.1 j y hy (by omega)
        case measure => simp [intOf]; omega
      · go_wp2_with fail
        go_ret
        exact ⟨by rw [HR.out, ixR_some HXX.out HRR.out.symm HX.out.1]; rfl, HB1.out⟩
    · go_wp2_with fail
      go_ret
      exact ⟨by rw [HR.out, ixR_none (fun j y hy => HX.out.1 j y hy (by
        have := (List.getElem?_eq_some_iff.1 hy).1
        rw [← HNN.out] at this; omega))]; rfl, HX.out.2⟩
set_option maxHeartbeats 400000 in
theorem hasparts_any (w : World) (f : Nat) (hf : ∀ args w, (callFunc f args).run Try.prog w = .ok (.enter f args) w) (q : Value) (a : Option Addr) (c : Nat) (L : List (PartD × Value)) (B : PartD × Value → Bool) (hl : L.length ≤ c) (hc : c ≤ 9223372036854775807) (hL : PsAt w a L) (hok : ∀ x ∈ L, x.1.nm.ok)
    (hB : ∀ x ∈ L, ∀ wr, Below w.heap.size w wr → Calls Try.prog f #[.agg (partA x.1 x.2), q] wr (ClRet wr (B x))) :
    Calls Try.prog 70 #[.slice a L.length c, .func (.func f) #[] #[q]] w (ClRet w (L.any B)) := by
  have HI := Lib.hid (ixparts_any w f hf q a c L B hl hc hL hok hB)
  have hd : decide (0 ≤ ixR B L) = L.any B := by
    unfold ixR
    rcases h : L.findIdx? B with _ | i
    · have := List.findIdx?_eq_none_iff.1 h
      have e : L.any B = false := by rw [List.any_eq_false]; intro x hx; simp [this x hx]
      rw [e]; rfl
    · have e : L.any B = true := by
        obtain ⟨hi, h1, _⟩ := List.findIdx?_eq_some_iff_getElem.1 h
        rw [List.any_eq_true]; exact ⟨_, List.getElem_mem hi, h1⟩
      rw [e]; simp
  have HD := Lib.hid hd
  clear hB hL hok hd
  go_enter Try.func70, Try.ntmps70
  go_wp2_with fail
  refine HI.out.mono ?_
  rintro e w1 ⟨rfl, hb1⟩
  have HB1 := Lib.hid hb1
  clear hb1
  go_wp2_with fail
  go_ret
  exact ⟨by rw [← HD.out]; rfl, HB1.out⟩
theorem call71 (args : Array Value) (w : World) : (callFunc 71 args).run Try.prog w = .ok (.enter 71 args) w := by go_simp
end Go.Proofs.Ytnckmaieghlpmaa
namespace Go.Proofs.Ytnckmaieghlpmaa
open Go.RowKit
set_option linter.unusedVariables false
deriving instance DecidableEq for NameD

def byteLit (x : UInt8) : Lit := .int .u8 (x.toNat : Int)
def NameD.fit (n : NameD) : Prop := n.ok ∧ n.proto < 256 ∧ n.id < 4294967296
theorem ncells5 : Try.prog.cellsOf 5 = 1 := by kernel_rfl
theorem ncells4 : Try.prog.cellsOf 4 = 1 := by kernel_rfl
theorem ncells38 : Try.prog.cellsOf 38 = 1 := by kernel_rfl
theorem ncells52 : Try.prog.cellsOf 52 = 16 := by kernel_rfl
theorem ncells54 : Try.prog.cellsOf 54 = 17 := by kernel_rfl
theorem cells121 : Try.prog.cellsOf 121 = 36 := by kernel_rfl
theorem keyT121 : Try.prog.keyTypeAt 5 121 = true := by kernel_rfl

theorem lits_u8 (d : Nat) (n : Nat) (h : n < 256) : Try.prog.keyLits (d + 1) 5 [.int .u8 (n : Int)] = some [.int .u8 (n : Int)] := by
  unfold Program.keyLits
  rw [Try.underlying5]
  have : (Lit.int .u8 (n : Int)).wf = true := by
    simp only [Lit.wf, Bool.and_eq_true, decide_eq_true_eq]
    refine ⟨by show (0 : Int) ≤ _; omega, by show _ ≤ (255 : Int); omega⟩
  simp [this]
theorem lits_u32 (d : Nat) (n : Nat) (h : n < 4294967296) : Try.prog.keyLits (d + 1) 38 [.int .u32 (n : Int)] = some [.int .u32 (n : Int)] := by
  unfold Program.keyLits
  rw [Try.underlying38]
  have : (Lit.int .u32 (n : Int)).wf = true := by
    simp only [Lit.wf, Bool.and_eq_true, decide_eq_true_eq]
    refine ⟨by show (0 : Int) ≤ _; omega, by show _ ≤ (4294967295 : Int); omega⟩
  simp [this]
theorem lits_bool (d : Nat) (b : Bool) : Try.prog.keyLits (d + 1) 4 [.bool b] = some [.bool b] := by
  unfold Program.keyLits
  rw [Try.underlying4]
theorem mapM_some {α β : Type} (f : α → Option β) (g : α → β) : ∀ (l : List α), (∀ i ∈ l, f i = some (g i)) → l.mapM f = some (l.map g)
  | [], _ => by simp
  | a :: l, h => by
    rw [List.mapM_cons, h a (by simp), mapM_some f g l (fun i hi => h i (by simp [hi]))]
    rfl
theorem take_drop_one {α : Type} {l : List α} {i : Nat} {x : α} (h : l[i]? = some x) : (l.drop i).take 1 = [x] := by
  have hi := (List.getElem?_eq_some_iff.1 h).1
  rw [List.drop_eq_getElem_cons hi]
  simp [(List.getElem?_eq_some_iff.1 h).2]
theorem flat_one {α : Type} : ∀ (l : List α) , (l.map fun x => [x]).flatten = l
  | [] => rfl
  | a :: l => by simp [flat_one l]
theorem lits_arr (d : Nat) (A : List UInt8) (hA : A.length = 16) : Try.prog.keyLits (d + 2) 52 (A.map byteV) = some (A.map byteLit) := by
  unfold Program.keyLits
  rw [Try.underlying52]
  simp only [List.length_map, hA, ncells52, if_true, ncells5, Nat.mul_one]
  rw [mapM_some _ (fun i => [byteLit (A.getD i 0)]) _ (fun i hi => by
    have hi' : i < A.length := by rw [hA]; simpa using hi
    rw [take_drop_one (x := byteV (A.getD i 0)) (by simp [hi'])]
    exact lits_u8 d _ (UInt8.toNat_lt _))]
  simp only [Option.map_some, Option.some.injEq]
  have e : (List.range 16).map (fun i => [byteLit (A.getD i 0)]) = (A.map byteLit).map fun x => [x] := by
    apply List.ext_getElem?
    intro i
    by_cases hi : i < 16
    · have hi' : i < A.length := by omega
      simp [hi, hi']
    · rw [List.getElem?_eq_none (by simp; omega), List.getElem?_eq_none (by simp; omega)]
  rw [e, flat_one]
theorem lits_adr (d : Nat) (s : Bool) (A : List UInt8) (hA : A.length = 16) : Try.prog.keyLits (d + 3) 54 (adrC s A).toList = some (.bool s :: A.map byteLit) := by
  unfold Program.keyLits
  rw [Try.underlying54]
  have h1 : (List.map byteV A).take 16 = A.map byteV := List.take_of_length_le (by simp [hA])
  have e1 : (adrC s A).toList.length = Try.prog.cellsOf 54 := by rw [ncells54, Array.length_toList, adr_size, hA]
  rw [adr_list] at e1 ⊢
  simp [e1, ncells4, ncells52, lits_bool, h1, lits_arr d A hA]
theorem lits_name (d : Nat) (n : NameD) (h : n.fit) : Try.prog.keyLits (d + 4) 121 (nameL n) = some ((.bool n.s1 :: n.A1.map byteLit) ++ ((.bool n.s2 :: n.A2.map byteLit) ++ [.int .u8 (n.proto : Int), .int .u32 (n.id : Int)])) := by
  obtain ⟨hok, hp, hi⟩ := h
  have hl := nameL_len hok
  unfold Program.keyLits
  rw [Try.underlying121]
  have l1 : (adrC n.s1 n.A1).toList.length = 17 := by rw [Array.length_toList, adr_size, hok.1]
  have l2 : (adrC n.s2 n.A2).toList.length = 17 := by rw [Array.length_toList, adr_size, hok.2]
  have p1 : (nameL n).take 17 = (adrC n.s1 n.A1).toList := by unfold nameL; rw [← l1, List.take_left]
  have p2 : ((nameL n).drop 17).take 17 = (adrC n.s2 n.A2).toList := by
    unfold nameL
    have := List.drop_left (l₁ := (adrC n.s1 n.A1).toList) (l₂ := (adrC n.s2 n.A2).toList ++ [.int .u8 (n.proto : Int), .int .u32 (n.id : Int)])
    rw [l1] at this
    rw [this]
    have := List.take_left (l₁ := (adrC n.s2 n.A2).toList) (l₂ := [Value.int .u8 (n.proto : Int), .int .u32 (n.id : Int)])
    rwa [l2] at this
  have p3 : ((nameL n).drop 34).take 1 = [.int .u8 (n.proto : Int)] := take_drop_one (by
    unfold nameL
    rw [List.getElem?_append_right (by omega), List.getElem?_append_right (by omega), l1, l2]; rfl)
  have p4 : ((nameL n).drop 35).take 1 = [.int .u32 (n.id : Int)] := take_drop_one (by
    unfold nameL
    rw [List.getElem?_append_right (by omega), List.getElem?_append_right (by omega), l1, l2]; rfl)
  have q1 := lits_adr d n.s1 n.A1 hok.1
  have q2 := lits_adr d n.s2 n.A2 hok.2
  have q3 := lits_u8 (d + 2) n.proto hp
  have q4 := lits_u32 (d + 2) n.id hi
  simp only [hl, cells121, List.drop_zero, ncells54, ncells5, ncells38, List.mapM_cons, List.mapM_nil, p1, p2, p3, p4, q1, q2, q3, q4]
  simp
theorem byteLit_inj {A B : List UInt8} (h : A.map byteLit = B.map byteLit) : A = B := by
  refine List.map_inj_right (fun x y h => ?_) |>.1 h
  unfold byteLit at h
  injection h with _ h
  exact UInt8.toNat_inj.1 (by omega)
theorem name_eq (w : World) (n m : NameD) (hn : n.fit) (hm : m.fit) :
    (binOp .eql 121 (.agg (nameA n)) (.agg (nameA m))).run Try.prog w = .ok (.bool (decide (n = m))) w := by
  have fm : ∀ k : NameD, k.fit → (Value.agg (nameA k)).formed Try.prog 121 = true := fun k hk => by
    simp [Value.formed, Try.underlying121, nameA_size hk.1, cells121]
  obtain ⟨r, hr, hiff⟩ := run_equalIn_deep 9995 5 121 keyT121 w 4 4 (.agg (nameA n)) (.agg (nameA m)) _ _ (fm n hn) (fm m hm) (lits_name 0 n hn) (lits_name 0 m hm)
  rw [run_eql_struct, show (10000 : Nat) = 9995 + 5 from rfl, hr]
  simp only [Result.andThen_ok]
  have : r = decide (n = m) := by
    rw [Bool.eq_iff_iff, hiff, decide_eq_true_eq]
    constructor
    · intro h
      obtain ⟨h1, h0⟩ := List.append_inj h (by simp [hn.1.1, hm.1.1])
      obtain ⟨h2, h3⟩ := List.append_inj h0 (by simp [hn.1.2, hm.1.2])
      clear h h0
      obtain ⟨s1, A1, s2, A2, p, i⟩ := n
      obtain ⟨t1, B1, t2, B2, p', i'⟩ := m
      simp only [List.cons.injEq, Lit.bool.injEq, Lit.int.injEq, true_and, and_true] at h1 h2 h3
      have e1 := byteLit_inj h1.2
      have e2 := byteLit_inj h2.2
      simp only [NameD.mk.injEq]
      exact ⟨h1.1, e1, h2.1, e2, by omega, by omega⟩
    · intro h; rw [h]
  rw [this]
end Go.Proofs.Ytnckmaieghlpmaa
namespace Go.Proofs.Ytnckmaieghlpmaa
open Go.RowKit
set_option linter.unusedVariables false
attribute [local go_sem ↓] fold_ld121 fold_st121 fold_ld124 fold_st124 Go.wp_at_zero Go.wp_at_succ
attribute [local go_sem] ld121_at st121_at ld124_at st124_at

/-- a packet: its name, its parts -/
def pkL (n : NameD) (v : Value) : List Value := nameL n ++ [v]
def pkA (n : NameD) (v : Value) : Array Value := (pkL n v).toArray
theorem pkL_len {n : NameD} (h : n.ok) (v : Value) : (pkL n v).length = 37 := by simp only [pkL, List.length_append, nameL_len h, List.length_cons, List.length_nil]
theorem pkA_size {n : NameD} (h : n.ok) (v : Value) : (pkA n v).size = 37 := by rw [← Array.length_toList]; exact pkL_len h v
theorem pkL_at {n : NameD} (h : n.ok) (v : Value) : (pkL n v)[36]? = some v := by
  unfold pkL
  rw [List.getElem?_append_right (by rw [nameL_len h]; omega), nameL_len h]; rfl
theorem pkA_one {n : NameD} {v : Value} (hv : v.oneCell' = true) : (pkA n v).all (·.oneCell') = true :=
  all_oneCell_toArray (fun u hu => by
    rcases List.mem_append.1 hu with h | h
    · exact nameL_one _ u h
    · simp at h; rw [h]; exact hv)
def NmAt (w : World) (g o : Nat) (n : NameD) : Prop := w.rangeAt g o (nameL n)
theorem NmAt.has {w : World} {g o : Nat} {n : NameD} (h : NmAt w g o n) (hn : n.ok) : has w g o 36 = true := by
  have := range_has h
  rwa [nameL_len hn] at this
theorem NmAt.rd {w : World} {g o : Nat} {n : NameD} (h : NmAt w g o n) (hn : n.ok) : rd w g o 36 = nameA n := by
  have := range_rd h
  rwa [nameL_len hn] at this
theorem NmAt.below {w w' : World} {g o : Nat} {n : NameD} (h : NmAt w g o n) (hb : Below w.heap.size w w') : NmAt w' g o n := fun j u hu => below_cells hb _ _ (h j u hu)
theorem nmAt_new (w : World) (n : NameD) (t : TypeId) : NmAt (w.alloc (.cells (nameA n) t)) w.heap.size 0 n := fun j u hu => by
  rw [World.cell?_alloc_mark, Nat.zero_add, ← Array.getElem?_toList]; exact hu
def PkAt (w : World) (g o : Nat) (n : NameD) (v : Value) : Prop := w.rangeAt g o (pkL n v)
theorem PkAt.below {w w' : World} {g o : Nat} {n : NameD} {v : Value} (h : PkAt w g o n v) (hb : Below w.heap.size w w') : PkAt w' g o n v := fun j u hu => below_cells hb _ _ (h j u hu)
theorem PkAt.has {w : World} {g o : Nat} {n : NameD} {v : Value} (h : PkAt w g o n v) (hp : n.ok) : has w g o 37 = true := by
  have := range_has h
  rwa [pkL_len hp] at this
theorem PkAt.rd {w : World} {g o : Nat} {n : NameD} {v : Value} (h : PkAt w g o n v) (hp : n.ok) : rd w g o 37 = pkA n v := by
  have := range_rd h
  rwa [pkL_len hp] at this
theorem PkAt.name {w : World} {g o : Nat} {n : NameD} {v : Value} (h : PkAt w g o n v) : NmAt w g o n := fun j u hu => h j u (by
  unfold pkL
  have := (List.getElem?_eq_some_iff.1 hu).1
  rw [List.getElem?_append_left this]; exact hu)
theorem PkAt.cell {w : World} {g o : Nat} {n : NameD} {v : Value} (h : PkAt w g o n v) (hp : n.ok) : w.cell? ⟨g, o + 36, none⟩ = some v := h _ _ (pkL_at hp v)
theorem pkAt_new (w : World) (n : NameD) (v : Value) (t : TypeId) : PkAt (w.alloc (.cells (pkA n v) t)) w.heap.size 0 n v := fun j u hu => by
  rw [World.cell?_alloc_mark, Nat.zero_add, ← Array.getElem?_toList]; exact hu
/-- packets in a row -/
def PksAt (w : World) (a : Option Addr) (L : List (NameD × Value)) : Prop :=
  L = [] ∨ ∃ b o, a = some ⟨b, o, none⟩ ∧ ∀ i x, L[i]? = some x → PkAt w b (o + i * 37) x.1 x.2

set_option maxHeartbeats 400000 in
theorem take1_any (w : World) (g : Nat) (n m : NameD) (v : Value) (hn : n.fit) (hm : m.fit) (hg : NmAt w g 0 m) :
    Calls Try.prog 67 #[.agg (pkA n v), .pointer (some ⟨g, 0, none⟩)] w (ClRet w (decide (n = m))) := by
  have HN := Lib.hid (below_alloc w (.cells (pkA n v) 124))
  have hg' := hg.below (below_alloc w (.cells (pkA n v) 124))
  have g1 := hg'.has hm.1
  have g2 := hg'.rd hm.1
  have hk := (pkAt_new w n v 124).name
  have g3 := hk.has hn.1
  have g4 := hk.rd hn.1
  have he := fun w => name_eq w n m hn hm
  obtain ⟨r, hr⟩ : ∃ r, r = decide (n = m) := ⟨_, rfl⟩
  rw [← hr] at he ⊢
  clear hn hm hg hg' hk hr
  go_enter Try.func67, Try.ntmps67
  go_wp2_with fail
  go_ret
  exact ⟨rfl, HN.out⟩

set_option maxHeartbeats 1000000 in
theorem ixpk_any (w : World) (f : Nat) (hf : ∀ args w, (callFunc f args).run Try.prog w = .ok (.enter f args) w) (q : Value) (a : Option Addr) (c : Nat) (L : List (NameD × Value)) (B : NameD × Value → Bool) (hl : L.length ≤ c) (hc : c ≤ 9223372036854775807) (hL : PksAt w a L) (hok : ∀ x ∈ L, x.1.ok)
    (hB : ∀ x ∈ L, ∀ wr, Below w.heap.size w wr → Calls Try.prog f #[.agg (pkA x.1 x.2), q] wr (ClRet wr (B x))) :
    Calls Try.prog 66 #[.slice a L.length c, .func (.func f) #[] #[q]] w fun e w' => e = .returned (.int .i64 (ixR B L)) ∧ Below w.heap.size w w' := by
  have HB := Lib.hid hB
  have HL := Lib.hid hL
  have HK := Lib.hid hok
  clear hB hL hok
  obtain ⟨n, hn⟩ : ∃ n, n = L.length := ⟨_, rfl⟩
  rw [← hn] at hl ⊢
  have HNN := Lib.hid hn
  clear hn
  obtain ⟨R, hR⟩ : ∃ R, R = ixR B L := ⟨_, rfl⟩
  rw [← hR]
  have HR := Lib.hid hR
  clear hR
  go_enter Try.func66, Try.ntmps66
  go_wp2_with fail
  go_loopw [8] (fun i wr => ∃ k : Nat, i = .int .i64 k ∧ k ≤ n ∧ Hid ((∀ j x, L[j]? = some x → j < k → B x = false) ∧ Below w.heap.size w wr)) (fun i _ => n - (intOf i).toNat)
  case atStart => exact ⟨0, rfl, Nat.zero_le _, fun j x _ h => absurd h (by omega), Below.refl _ _⟩
  case round =>
    obtain ⟨k, rfl, hk, HX⟩ := hrel
    by_cases hlt : k < n
    · obtain ⟨x, hx⟩ : ∃ x, L[k]? = some x := ⟨L[k]'(by rw [← HNN.out]; exact hlt), by rw [List.getElem?_eq_getElem]⟩
      obtain ⟨b, o, rfl, hps⟩ : ∃ b o, a = some ⟨b, o, none⟩ ∧ ∀ i x, L[i]? = some x → PkAt w b (o + i * 37) x.1 x.2 := by
        rcases HL.out with h | h
        · rw [h] at hx; simp at hx
        · exact h
      have hm : x ∈ L := List.mem_of_getElem? hx
      have hp := (hps k x hx).below HX.out.2
      have h1 := hp.has (HK.out x hm)
      have h2 := hp.rd (HK.out x hm)
      have HC := Lib.hid (HB.out x hm _ HX.out.2)
      have HXX := Lib.hid hx
      clear hp hps hx hm
      go_wp2_with fail
      refine HC.out.mono ?_
      rintro e w1 ⟨rfl, hb1⟩
      have HB1 := Lib.hid (HX.out.2.then hb1)
      clear hb1
      obtain ⟨r, hr⟩ : ∃ r, r = B x := ⟨_, rfl⟩
      rw [← hr]
      have HRR := Lib.hid hr
      clear hr
      rcases r with _ | _
      · go_wp2_with fail
        go_roundw
        case rel =>
          refine ⟨k + 1, by go_num, by omega, fun j y hy hj => ?_, HB1.out⟩
          by_cases hjk : j = k
          · subst hjk
            rw [HXX.out] at hy; cases hy; exact HRR.out.symm
          · exact HX.out.1 j y hy (by omega)
        case measure => simp [intOf]; omega
      · go_wp2_with fail
        go_ret
        exact ⟨by rw [HR.out, ixR_some HXX.out HRR.out.symm HX.out.1]; rfl, HB1.out⟩
    · go_wp2_with fail
      go_ret
      exact ⟨by rw [HR.out, ixR_none (fun j y hy => HX.out.1 j y hy (by
        have := (List.getElem?_eq_some_iff.1 hy).1
        rw [← HNN.out] at this; omega))]; rfl, HX.out.2⟩
end Go.Proofs.Ytnckmaieghlpmaa
namespace Go.Proofs.Ytnckmaieghlpmaa
open Go.RowKit
set_option linter.unusedVariables false

theorem info90m : (Try.prog.info? 90).map (fun i => (i.size, i.bytes, i.zero.map (·.cells.size))) = some (39, 80, some 39) := by kernel_rfl
theorem info_take {t : TypeId} {a b c : Nat} (h : (Try.prog.info? t).map (fun i => (i.size, i.bytes, i.zero.map (·.cells.size))) = some (a, b, some c)) : ∃ i z, Try.prog.info? t = some i ∧ i.zero = some z ∧ i.size = a ∧ i.bytes = b ∧ z.cells.size = c := by
  rcases hq : Try.prog.info? t with _ | i
  · rw [hq] at h; cases h
  · rw [hq] at h
    simp only [Option.map_some, Option.some.injEq, Prod.mk.injEq] at h
    obtain ⟨h1, h2, h3⟩ := h
    rcases hz : i.zero with _ | z
    · rw [hz] at h3; cases h3
    · rw [hz] at h3
      simp only [Option.map_some, Option.some.injEq] at h3
      exact ⟨i, z, rfl, hz, h1, h2, h3⟩
theorem info90z : ∃ i z, Try.prog.info? 90 = some i ∧ i.zero = some z ∧ i.size = 39 ∧ i.bytes = 80 ∧ z.cells.size = 39 := info_take info90m
/-- what an insertion leaves -/
def InsRet (w : World) (base : Nat) (s : Value) (n : Nat) (xs : List Value) (e : Ending) (w' : World) : Prop :=
  ∃ v', e = .returned v' ∧ w'.ownsRow base 90 39 v' n xs ∧ w.grownBy w' s.ownBlock ∧ (v'.ownBlock = s.ownBlock ∨ ∃ k, v'.ownBlock = some k ∧ w.heap.size ≤ k)

set_option maxRecDepth 100000 in
set_option maxHeartbeats 1000000 in
theorem ins_end (w : World) (base n : Nat) (s : Value) (xs news : List Value) (gv : Nat) (hb : base ≤ w.heap.size) (hown : w.ownsRow base 90 39 s n xs) (hn : n ≤ 4294967296) (hl : news.length = 39) (hnews : w.rangeAt gv 0 news) (h1 : ∀ u ∈ news, u.oneCell' = true) :
    Calls Try.prog 77 #[s, .int .i64 n, .slice (some ⟨gv, 0, none⟩) 1 1] w (InsRet w base s (n + 1) (xs ++ news)) := by
  obtain ⟨i90, z90, hi, hz, hsize, hby, hzs⟩ := info90z
  have HO := Lib.hid hown
  obtain ⟨a, c, rfl, hc, hcm⟩ : ∃ a c, s = .slice a n c ∧ n ≤ c ∧ c ≤ maxLen := by
    rcases hown.2 with ⟨rfl, rfl⟩ | ⟨g, cap, cur, rfl, _, _, h1, h2, _⟩
    · exact ⟨none, 0, rfl, Nat.le_refl _, Nat.zero_le _⟩
    · exact ⟨_, _, rfl, h1, h2⟩
  unfold maxLen at hcm
  have HW : Hid (∀ j u, news[j]? = some u → w.cell? ((⟨gv, 0, none⟩ : Addr).add j) = some u) := Lib.hid (fun j u hu => by rw [Addr.add_lit]; exact hnews j u hu)
  clear hown hnews
  go_enter Try.func77, Try.ntmps77
  go_wp2_with (at_builtin; go_loud (refine wpList_append_own_at _ rfl (.tmp 23) (.tmp 24) 83 rfl base 90 i90 z90 39 80 Try.underlying83 hi hz hsize hby hzs (by omega) (.slice a n c) n xs rfl HO.out ⟨gv, 0, none⟩ 1 1 news rfl (by rw [hl]) HW.out h1 (by unfold maxLen; omega) (by omega) hb ?_; intro v' w' h2 h3 h4 h5))
  all_goals (go_ret; exact ⟨v', rfl, h2, (by cases a <;> exact h3), (by cases a <;> exact h5.imp id (fun h => ⟨_, h, Nat.le_refl _⟩))⟩)

/-! copies at elements of more than one cell -/
section
variable {P : Program} (w : World)
theorem run_copyN (dT sT ty elem : TypeId) (size : Nat) (g o dLen dCap : Nat) (a : Addr) (sLen sCap : Nat) (cur : Array Value) (t : TypeId) (cs : List Value)
    (hu : P.underlying dT = some (.slice elem)) (hs : (P.info? elem).map (·.size) = some size)
    (hg : w.heap[g]? = some (.cells cur t (0, 0))) (hn : cs.length = Nat.min sLen dLen * size)
    (hsrc : ∀ j v, cs[j]? = some v → w.cell? (a.add j) = some v) (hfit : o + cs.length ≤ cur.size) (h1 : ∀ v ∈ cs, v.oneCell' = true) :
    (Builtin.copy_ #[dT, sT] ty #[.slice (some ⟨g, o, none⟩) dLen dCap, .slice (some a) sLen sCap]).run P w =
      .ok (goInt (Nat.min sLen dLen)) (w.setRow g (cur.toList.take o ++ (cs ++ cur.toList.drop (o + cs.length))).toArray) := by
  have hl := run_loadCells_list (P := P) w a cs hsrc
  have hst := run_storeCells_at P g o t cs 0 cur w hg (by simpa using hfit) h1
  cases hq : P.info? elem with
  | none => simp [hq] at hs
  | some i =>
    have hi : i.size = size := by simpa [hq] using hs
    simp [Builtin.copy_, run_underlying hu, Builtin.lenOf, Builtin.firstCells, sizeOf, typeInfo, hq, hi, ← hn, hl, hst]
theorem wpList_copyN {ops : Array Oper} {rest : List Oper} {o : Oper} {a : Act} {Q : Exit → Act → World → Prop} (hgd : o.guard = none) (d s : Operand) (dT sT : TypeId)
    (ho : o.op = .call { callee := .builtin .copy, args := #[d, s], argTypes := #[dT, sT] }) (elem : TypeId) (size : Nat) (hu : P.underlying dT = some (.slice elem)) (hsz : (P.info? elem).map (·.size) = some size)
    (g off dLen dCap : Nat) (ad : Addr) (sLen sCap : Nat) (hd : a.eval d = .slice (some ⟨g, off, none⟩) dLen dCap) (hs : a.eval s = .slice (some ad) sLen sCap)
    (cur : Array Value) (t : TypeId) (hg : w.heap[g]? = some (.cells cur t (0, 0))) (cs : List Value) (hn : cs.length = Nat.min sLen dLen * size)
    (hsrc : ∀ j v, cs[j]? = some v → w.cell? (ad.add j) = some v) (hfit : off + cs.length ≤ cur.size) (h1 : ∀ v ∈ cs, v.oneCell' = true)
    (h : wpList P ops Q rest (a.put o.dst (goInt (Nat.min sLen dLen))) (w.setRow g (cur.toList.take off ++ (cs ++ cur.toList.drop (off + cs.length))).toArray)) : wpList P ops Q (o :: rest) a w := by
  refine wpList_plain hgd fun K hK => ?_
  have hrun := run_copyN (P := P) w dT sT o.type elem size g off dLen dCap ad sLen sCap cur t cs hu hsz hg hn hsrc hfit h1
  unfold Oper.wp
  simp [execOp, ho, resolve, invoke, builtin, hd, hs, hrun, Result.andThen]
  exact hK _ _ h
end

/-- the elements behind a place, moved one further, and one laid there -/
theorem ins_list {α : Type} (cur news : List α) (a b s : Nat) (h1 : a ≤ b) (h2 : news.length = s) (h3 : b + s ≤ cur.length) :
    let c1 := cur.take (a + s) ++ (((cur.take b).drop a) ++ cur.drop (a + s + ((cur.take b).drop a).length))
    (c1.take a ++ (news ++ c1.drop (a + news.length))).take (b + s) = (cur.take b).take a ++ news ++ (cur.take b).drop a ∧ (c1.take a ++ (news ++ c1.drop (a + news.length))).length = cur.length ∧ c1.length = cur.length := by
  have hm : ((cur.take b).drop a).length = b - a := by simp; omega
  intro c1
  have hc1 : c1 = cur.take (a + s) ++ (((cur.take b).drop a) ++ cur.drop (b + s)) := by
    simp only [c1]; rw [hm]; congr 3; omega
  have hk1 : (cur.take (a + s)).length = a + s := by rw [List.length_take]; omega
  have hl : c1.length = cur.length := by rw [hc1, List.length_append, List.length_append, hk1, hm, List.length_drop]; omega
  have t1 : c1.take a = cur.take a := by
    rw [hc1, List.take_append_of_le_length (by rw [hk1]; omega), List.take_take]; congr 1; omega
  have t2 : c1.drop (a + s) = ((cur.take b).drop a) ++ cur.drop (b + s) := by
    rw [hc1]
    have := List.drop_left (l₁ := cur.take (a + s)) (l₂ := ((cur.take b).drop a) ++ cur.drop (b + s))
    rwa [hk1] at this
  have hka : (cur.take a).length = a := by rw [List.length_take]; omega
  refine ⟨?_, ?_, hl⟩
  · rw [h2, t1, t2]
    have e4 : cur.take a ++ (news ++ (((cur.take b).drop a) ++ cur.drop (b + s))) = (cur.take a ++ news ++ ((cur.take b).drop a)) ++ cur.drop (b + s) := by simp
    have hk : (cur.take a ++ news ++ ((cur.take b).drop a)).length = b + s := by rw [List.length_append, List.length_append, hka, h2, hm]; omega
    rw [e4]
    have := List.take_left (l₁ := cur.take a ++ news ++ ((cur.take b).drop a)) (l₂ := cur.drop (b + s))
    rw [hk] at this
    rw [this, List.take_take, Nat.min_eq_left h1]
  · rw [h2, t1, t2, List.length_append, hka, List.length_append, h2, List.length_append, hm, List.length_drop]; omega
end Go.Proofs.Ytnckmaieghlpmaa
namespace Go.Proofs.Ytnckmaieghlpmaa
open Go.RowKit
set_option linter.unusedVariables false

theorem overlaps_apart (w : World) (g gv : Nat) (c1 c2 : Array Value) (t1 t2 : TypeId) (h1 : w.heap[g]? = some (.cells c1 t1 (0, 0))) (h2 : w.heap[gv]? = some (.cells c2 t2 (0, 0))) (hne : gv ≠ g) (hk : c1.size ≠ 0) (o la ca lb cb : Nat) :
    (callFunc 88 #[.slice (some ⟨gv, 0, none⟩) la ca, .slice (some ⟨g, o, none⟩) lb cb]).run Try.prog w = .ok (.value (.bool false)) w := by
  have sz : ∀ w, (Go.sizeOf 90).run Try.prog w = .ok 39 w := fun w => by
    obtain ⟨i, z, hi, hz, h1, _, _⟩ := info90z
    simp [sizeOf, typeInfo, hi, h1]
  rw [run_callFunc_extern Try.func88 (by kernel_rfl) (by kernel_rfl) (by kernel_rfl) (e := Extern.SlicesOverlaps.overlaps #[83, 83] #[4]) (by kernel_rfl),
    Lib.run_overlaps_apart w 83 4 90 Try.underlying83 39 sz ⟨gv, 0, none⟩ ⟨g, o, none⟩ la ca lb cb hne t2 t1 c2.size c1.size (by simp [World.shape?, h2]) (by simp [World.shape?, h1]) hk (by simp [World.frozen?, h2]) (by simp [World.frozen?, h2])]
  rfl

set_option maxRecDepth 100000 in
set_option maxHeartbeats 4000000 in
theorem ins_in (w : World) (n i c g gv : Nat) (cur : Array Value) (news : List Value) (hg : w.heap[g]? = some (.cells cur 90 (0, 0))) (hcs : cur.size = c * 39) (hi : i < n) (hroom : n + 1 ≤ c) (hc : c ≤ 9223372036854775807)
    (hl : news.length = 39) (hgv : w.heap[gv]? = some (.cells news.toArray 90 (0, 0))) (hne : gv ≠ g) (h1 : ∀ u ∈ news, u.oneCell' = true) (h1c : ∀ u ∈ cur.toList.take (n * 39), u.oneCell' = true) :
    Calls Try.prog 77 #[.slice (some ⟨g, 0, none⟩) n c, .int .i64 i, .slice (some ⟨gv, 0, none⟩) 1 1] w fun e w' =>
      e = .returned (.slice (some ⟨g, 0, none⟩) (n + 1) c) ∧ ∃ c1 : List Value, c1 = cur.toList.take (i * 39 + 39) ++ (((cur.toList.take (n * 39)).drop (i * 39)) ++ cur.toList.drop (i * 39 + 39 + ((cur.toList.take (n * 39)).drop (i * 39)).length)) ∧
        w' = (w.drew.setRow g c1.toArray).setRow g (c1.take (i * 39) ++ (news ++ c1.drop (i * 39 + news.length))).toArray := by
  have hov := overlaps_apart w g gv cur news.toArray 90 90 hg hgv hne (by omega)
  obtain ⟨mid, hmid⟩ : ∃ mid, mid = (cur.toList.take (n * 39)).drop (i * 39) := ⟨_, rfl⟩
  have hml : mid.length = (n - i) * 39 := by rw [hmid, List.length_drop, List.length_take, Array.length_toList, hcs, Nat.min_eq_left (Nat.mul_le_mul_right _ (by omega)), ← Nat.sub_mul]
  have hmc : ∀ j v, mid[j]? = some v → cur[i * 39 + j]? = some v := fun j v hj => by
    rw [hmid, List.getElem?_drop, List.getElem?_take] at hj
    split at hj
    · simpa using hj
    · cases hj
  have hm1 : ∀ v ∈ mid, v.oneCell' = true := fun v hv => h1c v (by rw [hmid] at hv; exact List.mem_of_mem_drop hv)
  have hmul : (i + 1) * 39 = i * 39 + 39 := Nat.succ_mul i 39
  have hfit : i * 39 + 39 + mid.length ≤ cur.size := by
    rw [hml, hcs, ← hmul, ← Nat.add_mul]; exact Nat.mul_le_mul_right _ (by omega)
  obtain ⟨c1, hc1⟩ : ∃ c1 : List Value, c1 = cur.toList.take (i * 39 + 39) ++ (mid ++ cur.toList.drop (i * 39 + 39 + mid.length)) := ⟨_, rfl⟩
  have hc1l : c1.length = cur.size := by
    rw [hc1]; simp only [List.length_append, List.length_take, List.length_drop, Array.length_toList]; omega
  have hcp1 : ∀ ty dc sc, (Builtin.copy_ #[83, 83] ty #[.slice (some ⟨g, (i + 1) * 39, none⟩) (n - i) dc, .slice (some ⟨g, i * 39, none⟩) (n + 1 - i) sc]).run Try.prog w.drew = .ok (goInt (Nat.min (n + 1 - i) (n - i))) (w.drew.setRow g c1.toArray) := fun ty dc sc => by
    rw [hmul, hc1]
    exact run_copyN w.drew 83 83 ty 90 39 g (i * 39 + 39) (n - i) dc ⟨g, i * 39, none⟩ (n + 1 - i) sc cur 90 mid Try.underlying83 info90s hg (by rw [hml]; congr 1; simp only [Nat.min_def]; split <;> omega)
      (fun j v hj => by rw [Addr.add_lit, World.cell?_drew]; simp [World.cell?, hg]; exact hmc j v hj) hfit hm1
  have hcp2 : ∀ (W : World), W.heap = (w.drew.setRow g c1.toArray).heap → ∀ ty dc, (Builtin.copy_ #[83, 83] ty #[.slice (some ⟨g, i * 39, none⟩) (n + 1 - i) dc, .slice (some ⟨gv, 0, none⟩) 1 1]).run Try.prog W = .ok (goInt (Nat.min 1 (n + 1 - i))) (W.setRow g (c1.take (i * 39) ++ (news ++ c1.drop (i * 39 + news.length))).toArray) := fun W hW ty dc => by
    have hgW : W.heap[g]? = some (.cells c1.toArray 90 (0, 0)) := by rw [hW]; exact setRow_heap w.drew g cur _ 90 _ hg
    have hvW : W.heap[gv]? = some (.cells news.toArray 90 (0, 0)) := by rw [hW, setRow_other w.drew g gv _ hne]; exact hgv
    exact run_copyN W 83 83 ty 90 39 g (i * 39) (n + 1 - i) dc ⟨gv, 0, none⟩ 1 1 c1.toArray 90 news Try.underlying83 info90s hgW (by rw [hl, show Nat.min 1 (n + 1 - i) = 1 from by simp only [Nat.min_def]; split <;> omega])
      (fun j v hj => by rw [Addr.add_lit]; simp [World.cell?, hvW]; simpa using hj) (by rw [List.size_toArray, hc1l]; omega) h1
  have hb3 : (i : Int) ≤ (n : Int) + 1 := by omega
  have hb4 : ¬ (c = i) := by omega
  have hb5 : ¬ (c = i + 1) := by omega
  have hz2 : ¬ ((i : Int) = (n : Int)) := by omega
  have HC1 := Lib.hid hc1
  have HMID := Lib.hid hmid
  clear hc1 hmid hm1 hmc hg hgv h1 h1c hfit hml hcs hl hc1l hmul
  go_enter Try.func77, Try.ntmps77
  go_wp2_with (simp only [hov])
  have htn : ((i : Int) + 1).toNat = i + 1 := by omega
  have hw1 : IntKind.i64.wrap ((i : Int) + 1) = (i : Int) + 1 := by rw [IntKind.wrap_i64]; omega
  have hb1 : (0 : Int) ≤ (i : Int) + 1 := by omega
  have hb6 : (i : Int) + 1 ≤ (n : Int) + 1 := by omega
  have mixed : Try.prog.follows Departure.mixedOrders = true := by kernel_rfl
  go_region_law_o (refine step_copy_runI rfl _ _ 83 83 rfl _ _ (by simp [Act.eval, Act.put]) (by simp [Act.eval, Act.put]) (hcp1 _ _ _) ?_)
  go_wp2_with (at_builtin; refine wpList_copy_runI _ rfl _ _ 83 83 rfl _ _ rfl rfl (hcp2 _ rfl _ _) ?_)
  go_ret
  exact ⟨rfl, c1, by rw [HC1.out, HMID.out], rfl⟩
end Go.Proofs.Ytnckmaieghlpmaa
namespace Go.Proofs.Ytnckmaieghlpmaa
open Go.RowKit
set_option linter.unusedVariables false

/-- append(s[:i], make(..)...) lays a new row -/
theorem grow_at (w : World) (n i g : Nat) (cur : Array Value) (hg : w.heap[g]? = some (.cells cur 90 (0, 0))) (hcs : cur.size = n * 39) (hi : i < n) (hn : n ≤ 4294967296) :
    ∃ C A0, n + 1 ≤ C ∧ C ≤ maxLen ∧ A0.size = C * 39 ∧ A0.toList.take (i * 39) = cur.toList.take (i * 39) ∧
      ∀ ty, (Builtin.append_ #[83, 3] ty #[.slice (some ⟨g, 0, none⟩) i n, .int .i64 ((n + 1 - i : Nat) : Int)]).run Try.prog w = .ok (.slice (some ⟨w.heap.size, 0, none⟩) (n + 1) C) (w.drew.alloc (.cells A0 90)) := by
  obtain ⟨i90, z90, hi90, hz, hsize, hby, hzs⟩ := info90z
  have hk : i + (n + 1 - i) = n + 1 := by omega
  have hol : (cur.toList.take (i * 39)).length = i * 39 := by rw [List.length_take, Array.length_toList, hcs, Nat.min_eq_left (Nat.mul_le_mul_right _ (by omega))]
  have hold : (Builtin.firstCells i90.size i (.slice (some ⟨g, 0, none⟩) i n)).run Try.prog w.drew = .ok (cur.toList.take (i * 39)).toArray w.drew :=
    run_firstCells_some (P := Try.prog) w.drew i90.size i ⟨g, 0, none⟩ i n _ (by rw [hol, hsize]) (fun j u hu => by
      rw [Addr.add_lit, World.cell?_drew]
      rw [List.getElem?_take] at hu
      split at hu
      · simp [World.cell?, hg]; simpa using hu
      · cases hu)
  refine ⟨grownCap w (n + 1) n 90, (cur.toList.take (i * 39)).toArray ++ Builtin.zeroCells z90.cells (n + 1 - i) ++ Builtin.zeroCells z90.cells (grownCap w (n + 1) n 90 - (n + 1)), ?_, ?_, ?_, ?_, fun ty => ?_⟩
  rotate_left 4
  · have := Lib.run_append_grow_zeros (P := Try.prog) w 83 3 ty 90 i90 z90 .i64 .i64 Try.underlying83 Try.underlying3 hi90 hz (some ⟨g, 0, none⟩) i n _ hold (n + 1 - i) (by omega) (by omega) (by omega) (by omega) (by rw [hby]; omega) (by rw [hk]; exact growslice_fits (by omega) (by rw [hby]; omega))
    rw [hk] at this
    exact this
  · exact grownCap_ge _ _ _ _
  · exact grownCap_le_maxLen _ _ _ _ (by unfold maxLen; omega)
  · have hge := grownCap_ge w (n + 1) n 90
    obtain ⟨G, hG⟩ : ∃ G, G = grownCap w (n + 1) n 90 := ⟨_, rfl⟩
    rw [← hG] at hge ⊢
    rw [Array.size_append, Array.size_append, List.size_toArray, size_zeroCells, size_zeroCells, hzs, hol]
    omega
  · simp only [Array.toList_append, List.append_assoc]
    have := List.take_left (l₁ := cur.toList.take (i * 39)) (l₂ := (Builtin.zeroCells z90.cells (n + 1 - i)).toList ++ (Builtin.zeroCells z90.cells (grownCap w (n + 1) n 90 - (n + 1))).toList)
    rwa [hol] at this

set_option maxRecDepth 100000 in
set_option maxHeartbeats 4000000 in
theorem ins_grow (w : World) (n i g gv : Nat) (cur : Array Value) (news : List Value) (hg : w.heap[g]? = some (.cells cur 90 (0, 0))) (hcs : cur.size = n * 39) (hi : i < n) (hn : n ≤ 4294967296)
    (hl : news.length = 39) (hgv : w.heap[gv]? = some (.cells news.toArray 90 (0, 0))) (h1 : ∀ u ∈ news, u.oneCell' = true) (h1c : ∀ u ∈ cur.toList, u.oneCell' = true) :
    Calls Try.prog 77 #[.slice (some ⟨g, 0, none⟩) n n, .int .i64 i, .slice (some ⟨gv, 0, none⟩) 1 1] w fun e w' =>
      ∃ (C : Nat) (A0 : Array Value) (c1 : List Value), n + 1 ≤ C ∧ C ≤ maxLen ∧ A0.size = C * 39 ∧ A0.toList.take (i * 39) = cur.toList.take (i * 39) ∧ e = .returned (.slice (some ⟨w.heap.size, 0, none⟩) (n + 1) C) ∧
        c1 = A0.toList.take (i * 39) ++ (news ++ A0.toList.drop (i * 39 + news.length)) ∧ w.grownBy w' none ∧
        w'.heap[w.heap.size]? = some (.cells (c1.take (i * 39 + 39) ++ (cur.toList.drop (i * 39) ++ c1.drop (i * 39 + 39 + (cur.toList.drop (i * 39)).length))).toArray 90 (0, 0)) := by
  obtain ⟨C, A0, hC1, hC2, hA1, hA2, happ⟩ := grow_at w n i g cur hg hcs hi hn
  unfold maxLen at hC2
  have hglt : g < w.heap.size := (Array.getElem?_eq_some_iff.1 hg).1
  have hvlt : gv < w.heap.size := (Array.getElem?_eq_some_iff.1 hgv).1
  obtain ⟨mid, hmid⟩ : ∃ mid, mid = cur.toList.drop (i * 39) := ⟨_, rfl⟩
  have hml : mid.length = (n - i) * 39 := by rw [hmid, List.length_drop, Array.length_toList, hcs, ← Nat.sub_mul]
  have hmc : ∀ j v, mid[j]? = some v → cur[i * 39 + j]? = some v := fun j v hj => by
    rw [hmid, List.getElem?_drop] at hj
    simpa using hj
  have hm1 : ∀ v ∈ mid, v.oneCell' = true := fun v hv => h1c v (by rw [hmid] at hv; exact List.mem_of_mem_drop hv)
  have hmul : (i + 1) * 39 = i * 39 + 39 := Nat.succ_mul i 39
  have hfit0 : i * 39 + 39 + mid.length ≤ C * 39 := by
    rw [hml, ← hmul, ← Nat.add_mul]; exact Nat.mul_le_mul_right _ (by omega)
  have e0 : (w.drew.alloc (.cells A0 90)).heap[w.heap.size]? = some (.cells A0 90 (0, 0)) := heap_alloc_new w.drew _
  have eg : ∀ k, k < w.heap.size → (w.drew.alloc (.cells A0 90)).heap[k]? = w.heap[k]? := fun k hk => Below.heap_alloc w.drew _ k hk
  obtain ⟨c1, hc1⟩ : ∃ c1 : List Value, c1 = A0.toList.take (i * 39) ++ (news ++ A0.toList.drop (i * 39 + news.length)) := ⟨_, rfl⟩
  have hc1l : c1.length = C * 39 := by
    rw [hc1]; simp only [List.length_append, List.length_take, List.length_drop, Array.length_toList]; omega
  have hcp1 : ∀ (W : World), W.heap = (w.drew.alloc (.cells A0 90)).heap → ∀ ty dc, (Builtin.copy_ #[83, 83] ty #[.slice (some ⟨w.heap.size, i * 39, none⟩) (n + 1 - i) dc, .slice (some ⟨gv, 0, none⟩) 1 1]).run Try.prog W = .ok (goInt (Nat.min 1 (n + 1 - i))) (W.setRow w.heap.size c1.toArray) := fun W hW ty dc => by
    rw [hc1]
    exact run_copyN _ 83 83 ty 90 39 w.heap.size (i * 39) (n + 1 - i) dc ⟨gv, 0, none⟩ 1 1 A0 90 news Try.underlying83 info90s (by rw [hW]; exact e0) (by rw [hl, show Nat.min 1 (n + 1 - i) = 1 from by simp only [Nat.min_def]; split <;> omega])
      (fun j v hj => by rw [Addr.add_lit]; have := eg gv hvlt; rw [← hW] at this; simp [World.cell?, this, hgv]; simpa using hj) (by omega) h1
  have hcp2 : ∀ (W : World), W.heap = ((w.drew.alloc (.cells A0 90)).setRow w.heap.size c1.toArray).heap → ∀ ty dc sc, (Builtin.copy_ #[83, 83] ty #[.slice (some ⟨w.heap.size, (i + 1) * 39, none⟩) (n - i) dc, .slice (some ⟨g, i * 39, none⟩) (n - i) sc]).run Try.prog W =
      .ok (goInt (Nat.min (n - i) (n - i))) (W.setRow w.heap.size (c1.take (i * 39 + 39) ++ (mid ++ c1.drop (i * 39 + 39 + mid.length))).toArray) := fun W hW ty dc sc => by
    have hgW : W.heap[w.heap.size]? = some (.cells c1.toArray 90 (0, 0)) := by rw [hW]; exact setRow_heap _ w.heap.size A0 _ 90 _ e0
    have hvW : W.heap[g]? = some (.cells cur 90 (0, 0)) := by rw [hW, setRow_other _ w.heap.size g _ (by omega), eg g hglt]; exact hg
    rw [hmul]
    exact run_copyN W 83 83 ty 90 39 w.heap.size (i * 39 + 39) (n - i) dc ⟨g, i * 39, none⟩ (n - i) sc c1.toArray 90 mid Try.underlying83 info90s hgW (by rw [hml]; simp)
      (fun j v hj => by rw [Addr.add_lit]; simp [World.cell?, hvW]; exact hmc j v hj) (by rw [List.size_toArray, hc1l]; exact hfit0) hm1
  have hcp1' := hcp1 (w.alloc (.cells A0 90)).drew rfl
  have hcp2' := hcp2 ((w.alloc (.cells A0 90)).drew.setRow w.heap.size c1.toArray).drew rfl
  clear hcp1 hcp2
  have HROW : Hid (∀ c2 : List Value, w.grownBy (((w.alloc (.cells A0 90)).drew.setRow w.heap.size c1.toArray).drew.setRow w.heap.size c2.toArray) none ∧ (((w.alloc (.cells A0 90)).drew.setRow w.heap.size c1.toArray).drew.setRow w.heap.size c2.toArray).heap[w.heap.size]? = some (.cells c2.toArray 90 (0, 0))) := Lib.hid (fun c2 => by
    have q0 : (w.alloc (.cells A0 90)).drew.heap[w.heap.size]? = some (.cells A0 90 (0, 0)) := heap_alloc_new w _
    have q1 : ((w.alloc (.cells A0 90)).drew.setRow w.heap.size c1.toArray).drew.heap[w.heap.size]? = some (.cells c1.toArray 90 (0, 0)) := setRow_heap _ w.heap.size A0 _ 90 _ q0
    refine ⟨⟨rfl, rfl, rfl, ?_, fun k hk _ => ?_⟩, setRow_heap _ w.heap.size _ _ 90 _ q1⟩
    · simp [World.setRow]
    · rw [setRow_other _ _ _ _ (by omega)]
      show ((w.alloc (.cells A0 90)).drew.setRow w.heap.size c1.toArray).heap[k]? = _
      rw [setRow_other _ _ _ _ (by omega)]
      exact Below.heap_alloc w _ k hk)
  have hsub : (n : Int) + 1 - i = ((n + 1 - i : Nat) : Int) := by omega
  have hb3 : (i : Int) ≤ (n : Int) + 1 := by omega
  have hb4 : ¬ (n = i) := by omega
  have hin : i ≤ n := by omega
  have hb5 : ¬ (C = i) := by omega
  have hb7 : ¬ (C = i + 1) := by omega
  have htn : ((i : Int) + 1).toNat = i + 1 := by omega
  have hw1 : IntKind.i64.wrap ((i : Int) + 1) = (i : Int) + 1 := by rw [IntKind.wrap_i64]; omega
  have hb1 : (0 : Int) ≤ (i : Int) + 1 := by omega
  have hb6 : (i : Int) + 1 ≤ (n : Int) + 1 := by omega
  have mixed : Try.prog.follows Departure.mixedOrders = true := by kernel_rfl
  have HFIN := Lib.hid (And.intro hC1 (And.intro hC2 (And.intro hA1 (And.intro hA2 (And.intro hc1 hmid)))))
  clear hA1 hA2 hc1 hmid hm1 hmc hg hgv h1 h1c hfit0 hml hcs hl hc1l hmul e0 eg
  go_enter Try.func77, Try.ntmps77
  go_wp2_with (first | (at_builtin; refine Lib.wpList_append_run _ rfl _ _ 83 3 rfl _ _ rfl rfl _ _ (happ _) ?_) | (refine wpList_copy_runI _ rfl (.tmp 43) (.tmp 44) 83 83 rfl _ _ rfl rfl (hcp1' _ _) ?_) | fail)
  go_region_law_o (refine step_copy_runI rfl _ _ 83 83 rfl _ _ (by simp [Act.eval, Act.put]) (by simp [Act.eval, Act.put]) (hcp2' _ _ _) ?_)
  go_wp2_with fail
  go_ret
  obtain ⟨f1, f2, f3, f4, f5, f6⟩ := HFIN.out
  refine ⟨C, A0, c1, f1, f2, f3, f4, rfl, f5, (HROW.out _).1, ?_⟩
  rw [← f6]
  exact (HROW.out _).2
end Go.Proofs.Ytnckmaieghlpmaa
namespace Go.Proofs.Ytnckmaieghlpmaa
open Go.RowKit
set_option linter.unusedVariables false

theorem grow_list {α : Type} (A cur news : List α) (a b s : Nat) (h1 : a ≤ b) (h2 : news.length = s) (h3 : b + s ≤ A.length) (h4 : cur.length = b) (h5 : A.take a = cur.take a) :
    let c1 := A.take a ++ (news ++ A.drop (a + news.length))
    (c1.take (a + s) ++ (cur.drop a ++ c1.drop (a + s + (cur.drop a).length))).take (b + s) = cur.take a ++ news ++ cur.drop a ∧ (c1.take (a + s) ++ (cur.drop a ++ c1.drop (a + s + (cur.drop a).length))).length = A.length := by
  intro c1
  have hka : (A.take a).length = a := by rw [List.length_take]; omega
  have hmid : (cur.drop a).length = b - a := by rw [List.length_drop, h4]
  have hl : c1.length = A.length := by simp only [c1]; rw [List.length_append, hka, List.length_append, h2, List.length_drop]; omega
  have t1 : c1.take (a + s) = cur.take a ++ news := by
    simp only [c1]
    rw [← List.append_assoc]
    have := List.take_left (l₁ := A.take a ++ news) (l₂ := A.drop (a + news.length))
    rw [List.length_append, hka, h2] at this
    rw [h2, this, h5]
  have hk : (cur.take a ++ news ++ cur.drop a).length = b + s := by rw [List.length_append, List.length_append, List.length_take, h2, hmid]; omega
  rw [t1, ← List.append_assoc]
  constructor
  · have := List.take_left (l₁ := cur.take a ++ news ++ cur.drop a) (l₂ := c1.drop (a + s + (cur.drop a).length))
    rwa [hk] at this
  · rw [List.length_append, hk, List.length_drop, hl, hmid]; omega

theorem insert_any (w : World) (base n i : Nat) (s : Value) (xs news : List Value) (gv : Nat) (hb : base ≤ w.heap.size) (hown : w.ownsRow base 90 39 s n xs) (hi : i ≤ n) (hn : n ≤ 4294967296)
    (hl : news.length = 39) (hgv : w.heap[gv]? = some (.cells news.toArray 90 (0, 0))) (hne : s.ownBlock ≠ some gv) (h1 : ∀ u ∈ news, u.oneCell' = true) (h1c : ∀ u ∈ xs, u.oneCell' = true) :
    Calls Try.prog 77 #[s, .int .i64 i, .slice (some ⟨gv, 0, none⟩) 1 1] w (InsRet w base s (n + 1) (xs.take (i * 39) ++ news ++ xs.drop (i * 39))) := by
  have hxl := hown.1
  have hfin : (xs.take (i * 39) ++ news ++ xs.drop (i * 39)).length = (n + 1) * 39 := by
    have := Nat.mul_le_mul_right 39 hi
    simp only [List.length_append, List.length_take, List.length_drop, hl, hxl]; omega
  by_cases hin : i = n
  · subst hin
    have e : xs.take (i * 39) ++ news ++ xs.drop (i * 39) = xs ++ news := by
      rw [List.take_of_length_le (by omega), List.drop_of_length_le (by omega)]; simp
    rw [e]
    refine ins_end w base i s xs news gv hb hown hn hl (fun j u hu => ?_) h1
    rw [Nat.zero_add]
    simp [World.cell?, hgv]; exact hu
  · have hlt : i < n := by omega
    rcases hown.2 with ⟨_, rfl⟩ | ⟨g, cap, cur, rfl, hbg, hg, hnc, hcm, hcs, htake⟩
    · omega
    · have hgne : gv ≠ g := fun e => hne (by rw [e]; rfl)
      have hmul : (n + 1) * 39 = n * 39 + 39 := Nat.succ_mul n 39
      have hle : i * 39 ≤ n * 39 := Nat.mul_le_mul_right 39 hi
      by_cases hroom : n + 1 ≤ cap
      · have hcap : (n + 1) * 39 ≤ cap * 39 := Nat.mul_le_mul_right 39 hroom
        refine (ins_in w n i cap g gv cur news hg hcs hlt hroom (by unfold maxLen at hcm; omega) hl hgv hgne h1 (by rw [htake]; exact h1c)).mono ?_
        rintro e w' ⟨rfl, c1, hc1, rfl⟩
        obtain ⟨q1, q2, q3⟩ := ins_list cur.toList news (i * 39) (n * 39) 39 hle hl (by rw [Array.length_toList, hcs]; omega)
        rw [← hc1] at q1 q2 q3
        rw [htake] at q1
        have hrow : (w.drew.setRow g c1.toArray).heap[g]? = some (.cells c1.toArray 90 (0, 0)) := setRow_heap w.drew g cur _ 90 _ hg
        refine ⟨_, rfl, ⟨hfin, .inr ⟨g, cap, _, rfl, hbg, setRow_heap _ g _ _ 90 _ hrow, hroom, hcm, ?_, ?_⟩⟩, ⟨rfl, rfl, rfl, by simp [World.setRow], fun k hk hkn => ?_⟩, .inl rfl⟩
        · rw [List.size_toArray, q2, Array.length_toList, hcs]
        · rw [hmul]; exact q1
        · have hkg : k ≠ g := fun e => hkn (by rw [e]; rfl)
          rw [setRow_other _ _ _ _ hkg, setRow_other _ _ _ _ hkg]; rfl
      · have hcn : cap = n := by omega
        subst hcn
        have hcx : cur.toList = xs := by rw [← htake, List.take_of_length_le (by rw [Array.length_toList, hcs]; exact Nat.le_refl _)]
        refine (ins_grow w cap i g gv cur news hg hcs hlt hn hl hgv h1 (by rw [hcx]; exact h1c)).mono ?_
        rintro e w' ⟨C, A0, c1, hC1, hC2, hA1, hA2, rfl, hc1, hgr, hrow⟩
        have hCm : (cap + 1) * 39 ≤ C * 39 := Nat.mul_le_mul_right 39 hC1
        obtain ⟨q1, q2⟩ := grow_list A0.toList cur.toList news (i * 39) (cap * 39) 39 hle hl (by rw [Array.length_toList, hA1]; omega) (by rw [Array.length_toList, hcs]) hA2
        rw [← hc1] at q1 q2
        refine ⟨_, rfl, ⟨hfin, .inr ⟨w.heap.size, C, _, rfl, hb, hrow, hC1, hC2, ?_, ?_⟩⟩, ⟨hgr.os, hgr.tape, hgr.output, hgr.size, fun k hk _ => hgr.block k hk (by simp)⟩, .inr ⟨_, rfl, Nat.le_refl _⟩⟩
        · rw [List.size_toArray, q2, Array.length_toList, hA1]
        · rw [hmul, ← hcx]; exact q1
end Go.Proofs.Ytnckmaieghlpmaa
