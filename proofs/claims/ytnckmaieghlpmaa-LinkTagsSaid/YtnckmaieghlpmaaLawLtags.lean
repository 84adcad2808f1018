/-
  The walk of horologelaw14.LinkTags.
-/
import Derived.Test.YtnckmaieghlpmaaLawLback
import Derived.Deep.RegionHeld3
import Derived.Deep.RegionLaw
import Derived.Test.YtnckmaieghlpmaaLkRopen
import Derived.Deep.DrawnRows
namespace Go.Proofs.Ytnckmaieghlpmaa
open Go.RowKit
set_option linter.unusedVariables false
attribute [local go_sem ↓] Go.wp_at_zero Go.wp_at_succ

/-- which of both types the tag number i has -/
def tg (f s : Bool) (i : Nat) : Bool := (i == 0 && f) || (i == 1 && s)
def ltagK (c : Bool) : List UInt8 := if c then [136, 168] else [129, 0]
def ltags (f s : Bool) (ts : List Nat) : Nat → List UInt8
  | 0 => []
  | i + 1 => ltags f s ts i ++ (ltagK (tg f s i) ++ numB false (ts.getD i 0) 2)
theorem ltagK_len (c : Bool) : (ltagK c).length = 2 := by cases c <;> rfl
theorem ltags_len (f s : Bool) (ts : List Nat) (i : Nat) : (ltags f s ts i).length = 4 * i := by
  induction i with
  | zero => rfl
  | succ i ih => simp only [ltags, List.length_append, ih, ltagK_len, numB_length]; omega
theorem ltagK_num (c : Bool) : num false (ltagK c) = 34984 ∨ num false (ltagK c) = 33024 := by cases c; exact .inr (by decide +kernel); exact .inl (by decide +kernel)
theorem ltags_open (f s : Bool) (ts : List Nat) (v : Nat) (bs : List UInt8) (hv : v = 4 ∨ v = 6) (n : Nat) (hn : n ≤ 3) :
    lkOpen 1 (lkHead 1 ++ ltags f s ts n ++ (lkKind (v : Int) ++ bs)) = if n = 3 then (0, [], 2) else (v, bs, 0) := by
  unfold lkOpen
  rw [if_neg (by omega), if_pos rfl]
  have h12 : (lkHead 1).length = 12 := rfl
  match n, hn with
  | 0, _ =>
    have e : lkHead 1 ++ ltags f s ts 0 ++ (lkKind (v : Int) ++ bs) = lkHead 1 ++ (lkKind (v : Int) ++ bs) := by simp [ltags]
    rw [e, if_neg (by omega)]; exact run_kind 2 _ _ v hv 12 h12
  | 1, _ =>
    have e : lkHead 1 ++ ltags f s ts 1 ++ (lkKind (v : Int) ++ bs) = lkHead 1 ++ (ltagK (tg f s 0) ++ (numB false (ts.getD 0 0) 2 ++ (lkKind (v : Int) ++ bs))) := by simp [ltags]
    rw [e, if_neg (by omega), run_tag 1 _ _ _ _ (ltagK_num _) (ltagK_len _) (numB_length ..) 12 h12]
    exact run_kind 1 _ _ v hv 16 (by simp [h12, numB_length, ltagK_len])
  | 2, _ =>
    have e : lkHead 1 ++ ltags f s ts 2 ++ (lkKind (v : Int) ++ bs) = lkHead 1 ++ (ltagK (tg f s 0) ++ (numB false (ts.getD 0 0) 2 ++ (ltagK (tg f s 1) ++ (numB false (ts.getD 1 0) 2 ++ (lkKind (v : Int) ++ bs))))) := by simp [ltags]
    rw [e, if_neg (by omega), run_tag 1 _ _ _ _ (ltagK_num _) (ltagK_len _) (numB_length ..) 12 h12, run_tag 0 _ _ _ _ (ltagK_num _) (ltagK_len _) (numB_length ..) 16 (by simp [h12, numB_length, ltagK_len])]
    exact run_kind 0 _ _ v hv 20 (by simp [h12, numB_length, ltagK_len])
  | 3, _ =>
    have e : lkHead 1 ++ ltags f s ts 3 ++ (lkKind (v : Int) ++ bs) = lkHead 1 ++ (ltagK (tg f s 0) ++ (numB false (ts.getD 0 0) 2 ++ (ltagK (tg f s 1) ++ (numB false (ts.getD 1 0) 2 ++ (ltagK (tg f s 2) ++ (numB false (ts.getD 2 0) 2 ++ (lkKind (v : Int) ++ bs))))))) := by simp [ltags]
    rw [e, if_pos rfl, run_tag 1 _ _ _ _ (ltagK_num _) (ltagK_len _) (numB_length ..) 12 h12, run_tag 0 _ _ _ _ (ltagK_num _) (ltagK_len _) (numB_length ..) 16 (by simp [h12, numB_length, ltagK_len])]
    exact run_third _ _ _ _ (ltagK_num _) (ltagK_len _) 20 (by simp [h12, numB_length, ltagK_len])
  | n + 4, h => omega

theorem three_cells {w : World} {g t0 t1 t2 : Nat} (h : w.heap[g]? = some (.cells #[.int .u16 (t0 : Int), .int .u16 (t1 : Int), .int .u16 (t2 : Int)] 81 (0, 0))) (i : Nat) (hi : i < 3) :
    w.cell? ⟨g, i, none⟩ = some (.int .u16 (([t0, t1, t2].getD i 0 : Nat) : Int)) := by
  rw [cell_of_row w g i _ 81 _ h]
  match i, hi with
  | 0, _ => rfl
  | 1, _ => rfl
  | 2, _ => rfl
theorem tg_cases (f s : Bool) (i : Nat) : (((i : Int) == 0) = true ∧ f = true ∧ ltagK (tg f s i) = [136, 168]) ∨ (((i : Int) == 0) = true ∧ f = false ∧ ((i : Int) == 1) = false ∧ ltagK (tg f s i) = [129, 0]) ∨
    (((i : Int) == 0) = false ∧ ((i : Int) == 1) = true ∧ s = true ∧ ltagK (tg f s i) = [136, 168]) ∨ (((i : Int) == 0) = false ∧ ((i : Int) == 1) = true ∧ s = false ∧ ltagK (tg f s i) = [129, 0]) ∨
    (((i : Int) == 0) = false ∧ ((i : Int) == 1) = false ∧ ltagK (tg f s i) = [129, 0]) := by
  match i with
  | 0 => cases f
         · exact .inr (.inl ⟨rfl, rfl, rfl, by cases s <;> rfl⟩)
         · exact .inl ⟨rfl, rfl, by cases s <;> rfl⟩
  | 1 => cases s
         · exact .inr (.inr (.inr (.inl ⟨rfl, rfl, rfl, by cases f <;> rfl⟩)))
         · exact .inr (.inr (.inl ⟨rfl, rfl, rfl, by cases f <;> rfl⟩))
  | i + 2 => exact .inr (.inr (.inr (.inr ⟨eqb_ne (by omega), eqb_ne (by omega), by cases f <;> cases s <;> simp [tg, ltagK]⟩)))
def arr3 (t0 t1 t2 : Nat) : Value := .agg #[.int .u16 t0, .int .u16 t1, .int .u16 t2]

set_option maxRecDepth 100000 in
set_option maxHeartbeats 1000000 in
theorem law_ltags_great (w : World) (six f s : Bool) (t0 t1 t2 : Nat) (v : Value) (bs : List UInt8) (hb : Bs w v bs) (h : 300 < bs.length) :
    Calls Try.prog 16 #[.bool six, .bool f, .bool s, .agg #[.int .u16 t0, .int .u16 t1, .int .u16 t2], v] w fun e w' => e = .returned (.bool true) ∧ Below w.heap.size w w' := by
  obtain ⟨a, c, rfl, hl1, hl2, hat⟩ := hb
  clear hat
  unfold maxLen at hl2
  have h' : (300 : Int) < (bs.length : Int) := by omega
  have HL0 : Hid (Below w.heap.size w (w.alloc (.cells #[.int .u16 (t0 : Int), .int .u16 (t1 : Int), .int .u16 (t2 : Int)] 81))) := Lib.hid (below_alloc _ _)
  go_enter Try.func16, Try.ntmps16
  go_wp2_with fail
  refine (known14 _).mono ?_; rintro e w1 ⟨rfl, hb1⟩
  have HL1 : Hid (Below w.heap.size w w1) := Lib.hid (below_past hb1)
  clear hb1
  go_wp2_with fail
  go_ret
  exact ⟨rfl, HL1.out⟩

set_option maxRecDepth 100000 in
set_option maxHeartbeats 4000000 in
theorem law_ltags (w : World) (six f s : Bool) (t0 t1 t2 : Nat) (v : Value) (bs : List UInt8) (hb : Bs w v bs) (h : bs.length ≤ 300) (ht0 : t0 < 65536) (ht1 : t1 < 65536) (ht2 : t2 < 65536) :
    Calls Try.prog 16 #[.bool six, .bool f, .bool s, .agg #[.int .u16 t0, .int .u16 t1, .int .u16 t2], v] w fun e w' => e = .returned (.bool true) ∧ Below w.heap.size w w' := by
  have HB := Lib.hid hb
  obtain ⟨a, c, rfl, hl1, hl2, hat⟩ := hb
  clear hat
  unfold maxLen at hl2
  have h' : ¬ (300 : Int) < (bs.length : Int) := by omega
  obtain ⟨vv, hvv⟩ : ∃ vv, vv = verOf six := ⟨_, rfl⟩
  have hvc : vv = 4 ∨ vv = 6 := by rw [hvv]; exact verOf_cases six
  have HVC := Lib.hid hvc
  obtain ⟨X, hX⟩ : ∃ X, X = lkFrame 1 (vv : Int) [] bs := ⟨_, rfl⟩
  have HX := Lib.hid hX
  have HXL : Hid (X.length = 14 + bs.length) := Lib.hid (by rw [hX, frame_len]; simp)
  have HC := Lib.hid (fun W hW => lput_eth0 W (vv : Int) (.slice none 0 0) (.slice a bs.length c) [] bs (by omega) (ns_none W) rfl hW (by omega))
  rw [← hX] at HC
  obtain ⟨ts, hts⟩ : ∃ ts, ts = [t0, t1, t2] := ⟨_, rfl⟩
  have HTS := Lib.hid hts
  obtain ⟨LT, hLT⟩ : ∃ LT : Nat → List UInt8, LT = ltags f s ts := ⟨_, rfl⟩
  have HLTs : Hid (∀ i, LT (i + 1) = LT i ++ (ltagK (tg f s i) ++ numB false (ts.getD i 0) 2)) := Lib.hid (fun i => by rw [hLT]; rfl)
  have HLTl : Hid (∀ i, (LT i).length = 4 * i) := Lib.hid (fun i => by rw [hLT]; exact ltags_len f s ts i)
  have HLT0 : Hid (LT 0 = []) := Lib.hid (by rw [hLT]; rfl)
  have HLTo : Hid (∀ n, n ≤ 3 → lkOpen 1 (lkHead 1 ++ LT n ++ (lkKind (vv : Int) ++ bs)) = if n = 3 then (0, [], 2) else (vv, bs, 0)) := Lib.hid (fun n hn => by rw [hLT]; exact ltags_open f s ts vv bs hvc n hn)
  clear hLT
  have hsix : (six = true ∧ (vv : Int) = 6) ∨ (six = false ∧ (vv : Int) = 4) := by
    cases six
    · exact .inr ⟨rfl, by rw [hvv]; rfl⟩
    · exact .inl ⟨rfl, by rw [hvv]; rfl⟩
  have hxb : (X.length : Int) = 14 + (bs.length : Int) := by have := HXL.out; omega
  have HXB := Lib.hid hxb
  clear hX hts hvc hvv h hxb
  rcases hsix with ⟨rfl, hv⟩ | ⟨rfl, hv⟩
  all_goals
    have HV := Lib.hid hv
    clear hv
    go_enter Try.func16, Try.ntmps16
    go_wp2_with fail
    have HBa : Hid (Bs (w.alloc (.cells #[.int .u16 (t0 : Int), .int .u16 (t1 : Int), .int .u16 (t2 : Int)] 81)) (.slice a bs.length c) bs) := Lib.hid (HB.out.alloc _)
    have HTa : Hid ((w.alloc (.cells #[.int .u16 (t0 : Int), .int .u16 (t1 : Int), .int .u16 (t2 : Int)] 81)).heap[w.heap.size]? = some (.cells #[.int .u16 (t0 : Int), .int .u16 (t1 : Int), .int .u16 (t2 : Int)] 81 (0, 0))) := Lib.hid (heap_alloc_new _ _)
    refine (known14 _).mono ?_; rintro e w1 ⟨rfl, hb1⟩
    have HB1 : Hid (Bs w1 (.slice a bs.length c) bs) := Lib.hid (HBa.out.below hb1)
    have HT1 : Hid (w1.heap[w.heap.size]? = some (.cells #[.int .u16 (t0 : Int), .int .u16 (t1 : Int), .int .u16 (t2 : Int)] 81 (0, 0))) := Lib.hid ((hb1.block _ (by simp)).trans HTa.out)
    have HL1 : Hid (Below w.heap.size w w1) := Lib.hid (below_past hb1)
    clear hb1 HBa HTa
    go_wp2_with fail
    have HC' := HC
    rw [HV.out] at HC'
    refine (HC'.out _ HB1.out).mono ?_
    rintro e w2 ⟨a2, c2, rfl, hb2, bel2⟩
    have HX2 : Hid (Bs w2 (.slice a2 X.length c2) X) := Lib.hid hb2
    have HB2 : Hid (Bs w2 (.slice a bs.length c) bs) := Lib.hid (HB1.out.below bel2)
    have HT2 : Hid (w2.heap[w.heap.size]? = some (.cells #[.int .u16 (t0 : Int), .int .u16 (t1 : Int), .int .u16 (t2 : Int)] 81 (0, 0))) := Lib.hid ((bel2.block _ (lt_of_block HT1.out)).trans HT1.out)
    have HL2 : Hid (Below w.heap.size w w2) := Lib.hid (HL1.out.trans (bel2.mono HL1.out.size))
    have hb2' : Bs w2 (.slice a2 X.length c2) X := hb2
    have hc2 : X.length ≤ c2 := by obtain ⟨_, _, he, h1, h2, _⟩ := hb2'; simp only [Value.slice.injEq, true_and] at he; omega
    have hc3 : c2 ≤ 9223372036854775807 := by obtain ⟨_, _, he, h1, h2, _⟩ := hb2'; unfold maxLen at h2; simp only [Value.slice.injEq, true_and] at he; omega
    have hxb := HXB.out
    clear hb2 hb2' bel2 HB1 HT1 HL1 HC HC'
    go_wp2_with fail
    clear hxb
    have i12 : (12 : Int) ≤ (X.length : Int) := by have := HXL.out; omega
    have n12 : ¬ c2 = 12 := by have := HXL.out; omega
    go_loopw [14] (fun s14 wr => ∃ n : Nat, n ≤ 3 ∧ s14 = .int .i64 n ∧ Hid (Below w2.heap.size w2 wr)) (fun s14 _ => 4 - (intOf s14).toNat)
    case atStart => exact ⟨0, by omega, rfl, Below.refl _ _⟩
    case round =>
      obtain ⟨n, hn, rfl, HR⟩ := hrel
      have hn4 : (n : Int) < 4 := by omega
      have HXr : Hid (Bs wr (.slice a2 12 c2) (X.take 12)) := Lib.hid (bs_take (HX2.out.below HR.out) (by have := HXL.out; omega))
      have HX12 : Hid (X.take 12 = lkHead 1) := Lib.hid (by
        have : X = lkHead 1 ++ (lkKind (vv : Int) ++ bs) := by rw [HX.out]; simp [lkFrame, tagsTo]
        rw [this]; exact List.take_left' rfl)
      go_wp2_with (at_builtin; refine wpList_app' rfl _ _ rfl w2.heap.size _ [] rfl (own_lit wr [] _ _ rfl HR.out.size (Nat.zero_le _)) _ (X.take 12) (by rfl) (HXr.out.alloc _) (by simp; omega) (by have := HR.out.size; simp; omega) ?_; intro M ax cx w3 EM OM LM NM hcm)
      have HM : Hid (M = lkHead 1) := Lib.hid (by rw [EM.out, HX12.out]; rfl)
      have HLM : Hid (Below w2.heap.size w2 w3) := Lib.hid ((HR.out.alloc HR.out.size _).trans LM.out)
      clear EM LM NM hcm HXr HX12
      go_loopw [15, 16] (fun s15 s16 wi => ∃ (i : Nat) (ai : Option Addr) (ci : Nat) (xs : List UInt8), i ≤ n ∧ s15 = .slice ai xs.length ci ∧ s16 = .int .i64 i ∧ xs.length ≤ 40 ∧ Hid (Own wi w2.heap.size (.slice ai xs.length ci) xs ∧ Below w2.heap.size w2 wi ∧ xs = lkHead 1 ++ LT i)) (fun _ s16 _ => n - (intOf s16).toNat)
      case atStart => exact ⟨0, ax, cx, M, Nat.zero_le _, rfl, rfl, by rw [HM.out]; decide, OM.out, HLM.out, by rw [HM.out, HLT0.out]; simp⟩
      case round =>
        obtain ⟨i, ai, ci, xs, hi, rfl, rfl, hxs, HI⟩ := hrel
        have HI2 := HI
        clear HM HLM OM
        by_cases hlt : i < n
        · have hlt' : (i : Int) < (n : Int) := by omega
          have b3 : (i : Int) < 3 := by omega
          have b0 : (0 : Int) ≤ (i : Int) := by omega
          obtain ⟨t, ht⟩ : ∃ t, t = ts.getD i 0 := ⟨_, rfl⟩
          have HCT : ∀ W, Below w2.heap.size w2 W → W.cell? ⟨w.heap.size, i, none⟩ = some (.int .u16 (t : Int)) := fun W hW => by
            rw [ht, HTS.out]
            exact three_cells ((hW.block _ (lt_of_block HT2.out)).trans HT2.out) i (by omega)
          have HCT := Lib.hid HCT
          have ht16 : t < 65536 := by
            rw [ht, HTS.out]
            match i, (show i < 3 by omega) with
            | 0, _ => exact ht0
            | 1, _ => exact ht1
            | 2, _ => exact ht2
          obtain ⟨h8, hh8⟩ : ∃ x, x = UInt8.ofNat (t / 256 % 256) := ⟨_, rfl⟩
          obtain ⟨l8, hl8⟩ : ∃ x, x = UInt8.ofNat (t % 256) := ⟨_, rfl⟩
          have hnum : numB false t 2 = [h8, l8] := by rw [numB2, hh8, hl8]
          have g1 : IntKind.u8.wrap ((t : Int) / 256) = (h8.toNat : Int) := by rw [hh8, IntKind.wrap_u8]; simp
          have g2 : IntKind.u8.wrap (t : Int) = (l8.toNat : Int) := by rw [hl8, IntKind.wrap_u8]; simp
          have HNM := Lib.hid hnum
          have HTT := Lib.hid ht
          clear hnum ht hh8 hl8 hlt
          have hstep := HLTs.out i
          rw [← HTT.out] at hstep
          obtain ⟨kt, hkt⟩ : ∃ kt, kt = ltagK (tg f s i) := ⟨_, rfl⟩
          have htg := tg_cases f s i
          rw [← hkt] at hstep htg
          have HSTEP := Lib.hid hstep
          clear hstep hkt
          rcases htg with ⟨q1, rfl, hK⟩ | ⟨q1, rfl, q3, hK⟩ | ⟨q1, q2, rfl, hK⟩ | ⟨q1, q2, rfl, hK⟩ | ⟨q1, q2, hK⟩
          all_goals
            have HK := Lib.hid hK
            clear hK
            go_wp2_with (first
              | (at_builtin; refine wpList_app' rfl _ _ rfl w2.heap.size _ xs rfl (HI.out.1.alloc _) _ [136, 168] rfl (bs_new wr [136, 168] _ 5 _ rfl (by decide)) (by simp; omega) (by have := HI.out.2.1.size; simp; omega) ?_; intro Z1 a1 c1 z1 E1 O1 L1 N1 hc1; have LL1 : Hid (Below w2.heap.size w2 z1) := Lib.hid ((HI.out.2.1.alloc HI.out.2.1.size _).trans L1.out); have hct := HCT.out _ LL1.out)
              | (at_builtin; refine wpList_app' rfl _ _ rfl w2.heap.size _ xs rfl (HI.out.1.alloc _) _ [129, 0] rfl (bs_new wr [129, 0] _ 5 _ rfl (by decide)) (by simp; omega) (by have := HI.out.2.1.size; simp; omega) ?_; intro Z1 a1 c1 z1 E1 O1 L1 N1 hc1; have LL1 : Hid (Below w2.heap.size w2 z1) := Lib.hid ((HI.out.2.1.alloc HI.out.2.1.size _).trans L1.out); have hct := HCT.out _ LL1.out)
              | fail)
          all_goals
            have hO1 : Own z1.drew w2.heap.size (.slice a1 Z1.length c1) Z1 := O1.out.drew
            have hZl : Hid (Z1.length ≤ 42) := Lib.hid (by have := N1.out; simp at this; omega)
            have hsz := LL1.out.size
            have HSZ := Lib.hid hsz
            have HZ1 : Hid (Z1 = xs ++ kt) := Lib.hid (by rw [HK.out]; exact E1.out)
            have HOO := Lib.hid hO1
            clear hO1 hsz E1 O1 L1 N1 HR HI
            go_region_held3 (fun w' => w'.cell? ⟨w.heap.size, i, none⟩ = some (.int .u16 (t : Int)) ∧ Below w2.heap.size w2 w')
              ((go_split_ands; first | exact ⟨HCT.out _ LL1.out.drew, LL1.out.drew⟩ | exact ⟨HCT.out _ (Below.alloc (by assumption) (Below.size (by assumption)) _), Below.alloc (by assumption) (Below.size (by assumption)) _⟩ | (exact ⟨HCT.out _ (by assumption), by assumption⟩) | fail))
              ((go_split_ands; refine step_app' (by rfl) _ _ (by rfl) w2.heap.size _ Z1 (by rfl) (HOO.out.alloc _) _ [h8, l8] (by rfl) (bs_new z1.drew [h8, l8] _ 5 _ rfl (by show 2 ≤ maxLen; decide)) (by have := hZl.out; simp; omega) (by have := HSZ.out; simp; omega) ?_; intro Z2 a3 c3 z3 E2 O2 L2 N2 hc2; have LL3 : Below w2.heap.size w2 z3 := (LL1.out.drew.alloc LL1.out.drew.size _).trans L2.out))
          all_goals
            have hZ2 : Z2 = lkHead 1 ++ LT (i + 1) := by
              have q : Z2 = Z1 ++ [h8, l8] := E2.out
              rw [q, HZ1.out, HI2.out.2.2, HSTEP.out, HNM.out]; simp
            have hZ2l : Z2.length ≤ 40 := by
              rw [hZ2, List.length_append, HLTl.out]
              have : (lkHead 1).length = 12 := rfl
              omega
            have HREL : Hid (Own z3 w2.heap.size (.slice a3 Z2.length c3) Z2 ∧ Below w2.heap.size w2 z3 ∧ Z2 = lkHead 1 ++ LT (i + 1)) := Lib.hid ⟨O2.out, LL3, hZ2⟩
            have hi1 : i + 1 ≤ n := by omega
            rename_i hh1 hh2 hh3
            clear hh1 hh2 hh3 hZ2 LL3 E2 O2 L2 N2 hct HZ1 HOO HSZ HNM HTT g1 g2
            go_wp2_with fail
            go_roundw
            case rel => exact ⟨i + 1, a3, c3, Z2, hi1, rfl, by go_num, hZ2l, HREL.out⟩
            case measure => simp [intOf]; omega
        · have HIN : Hid (i = n) := Lib.hid (by omega)
          have hge : ¬ (i : Int) < (n : Int) := by omega
          clear hlt
          obtain ⟨ad, had, hbd⟩ := drop_bs (HX2.out.below HI2.out.2.1) 12 (by have := HXL.out; omega)
          rw [if_neg (by omega)] at had
          subst had
          have HXD := Lib.hid hbd
          have hXd : X.drop 12 = lkKind (vv : Int) ++ bs := by
            have : X = lkHead 1 ++ (lkKind (vv : Int) ++ bs) := by rw [HX.out]; simp [lkFrame, tagsTo]
            rw [this]; exact List.drop_left' rfl
          have HXd := Lib.hid hXd
          have HOX := Lib.hid HI2.out.1
          have hle : xs.length + (X.drop 12).length ≤ 70368744177664 := by rw [List.length_drop]; have := HXL.out; omega
          have HLE := Lib.hid hle
          have HSZ := Lib.hid HI2.out.2.1.size
          clear hbd hXd hle
          have HB5 : Hid (Bs wr (.slice a bs.length c) bs) := Lib.hid (HB2.out.below HI2.out.2.1)
          go_wp2_with (at_builtin; refine wpList_app' rfl _ _ rfl w2.heap.size _ xs rfl HOX.out _ (X.drop 12) (by rfl) HXD.out HLE.out HSZ.out ?_; intro N a5 c5 z5 EN ON LN NN hcn)
          have HN : Hid (N = lkHead 1 ++ LT n ++ (lkKind (vv : Int) ++ bs)) := Lib.hid (by
            have q : N = xs ++ X.drop 12 := EN.out
            rw [q, HI2.out.2.2, HXd.out, HIN.out])
          have hO := HLTo.out n hn
          rw [← HN.out] at hO
          have HBN : Hid (Bs z5 (.slice a5 N.length c5) N) := Lib.hid ON.out.bs
          have HL5 : Hid (Below w2.heap.size w2 z5) := Lib.hid (HI2.out.2.1.trans LN.out)
          clear EN ON LN NN hcn HOX HXD HI HI2 HR
          by_cases h3 : n = 3
          · rw [if_pos h3] at hO
            have b3 : ((n : Int) == 3) = true := by rw [beq_iff_eq]; omega
            refine (show Calls Try.prog 43 #[.int .u16 1, .slice a5 N.length c5] z5 (LkLit z5 0 [] 0 2) from open_lit z5 1 _ N 0 2 [] HBN.out hO).mono ?_
            rintro e z6 ⟨a6, rfl, hb6, bel6⟩
            have HL6 : Hid (Below w.heap.size w z6) := Lib.hid (HL2.out.trans ((HL5.out.trans (bel6.mono HL5.out.size)).mono HL2.out.size))
            clear hb6 bel6 hO h3
            go_wp2_with fail
            go_ret
            exact ⟨rfl, HL6.out⟩
          · rw [if_neg h3] at hO
            have b3 : ((n : Int) == 3) = false := eqb_ne (by omega)
            refine (open_lit z5 1 (.slice a5 N.length c5) N vv 0 bs HBN.out hO).mono ?_
            rintro e z6 ⟨a6, rfl, hb6, bel6⟩
            have HL6 : Hid (Below w2.heap.size w2 z6) := Lib.hid (HL5.out.trans (bel6.mono HL5.out.size))
            obtain ⟨S, hS⟩ : ∃ S, S = mkS bs := ⟨_, rfl⟩
            have hk1 : (convert 24 9 (.slice a6 bs.length bs.length)).run Try.prog z6 = .ok (.string S) z6 := hS ▸ conv_bs hb6
            have hk2 : (convert 24 9 (.slice a bs.length c)).run Try.prog z6 = .ok (.string S) z6 := hS ▸ conv_bs (HB2.out.below HL6.out)
            have hv := HV.out
            have hn1 : n + 1 ≤ 3 := by omega
            clear hb6 bel6 hO h3 hS
            go_wp2_with fail
            go_roundw
            case rel => exact ⟨n + 1, hn1, by go_num, HL6.out⟩
            case measure => simp [intOf]; omega

theorem law_ltags' (w : World) (six f s : Bool) (va v : Value) (ha : ∃ t0 t1 t2 : Nat, va = .agg #[.int .u16 t0, .int .u16 t1, .int .u16 t2] ∧ t0 < 65536 ∧ t1 < 65536 ∧ t2 < 65536) (hb : ∃ bs, Bs w v bs) :
    Calls Try.prog 16 #[.bool six, .bool f, .bool s, va, v] w fun e w' => e = .returned (.bool true) ∧ Below w.heap.size w w' := by
  obtain ⟨t0, t1, t2, rfl, h0, h1, h2⟩ := ha
  obtain ⟨bs, hb⟩ := hb
  by_cases h : 300 < bs.length
  · exact law_ltags_great w six f s t0 t1 t2 v bs hb h
  · exact law_ltags w six f s t0 t1 t2 v bs hb (by omega) h0 h1 h2
end Go.Proofs.Ytnckmaieghlpmaa
