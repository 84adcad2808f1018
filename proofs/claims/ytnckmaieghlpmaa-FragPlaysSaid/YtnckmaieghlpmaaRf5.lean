/-
  The reference's whole.
-/
import Derived.Test.YtnckmaieghlpmaaRf4
import Derived.Test.YtnckmaieghlpmaaZ5
namespace Go.Proofs.Ytnckmaieghlpmaa
open Go.RowKit
set_option linter.unusedVariables false
set_option linter.unusedSimpArgs false
attribute [local go_sem ↓] fold_ld54 fold_st54 fold_ld95 fold_st95 Go.wp_at_zero Go.wp_at_succ
attribute [local go_sem] ld54_at st54_at ld95_at st95_pt free_new1

def WholeRet (w : World) (S : List PartD) (e : Ending) (w' : World) : Prop := (∃ u, e = .returned (.tuple #[u, .bool (wholeB S)]) ∧ (wholeB S = true → Own w' w.heap.size u (joinB S))) ∧ Below w.heap.size w w'
def lenV : Value → Nat
  | .slice _ m _ => m
  | _ => 0
/-- where the bytes end, as far as it has been looked -/
def EndS (ps : List (PartD × Value)) (k : Nat) (E : Int) : Prop := (E = -1 ∧ ∀ i z, ps[i]? = some z → i < k → z.1.more = true) ∨ ∃ z ∈ ps, z.1.more = false ∧ E = z.1.fin
/-- a part that begins there has been looked for -/
def FndS (ps : List (PartD × Value)) (Y : List UInt8) (k : Nat) (f : Bool) (Y' : List UInt8) : Prop :=
  (f = false ∧ Y' = Y ∧ ∀ i z, ps[i]? = some z → i < k → z.1.pos ≠ (Y.length : Int)) ∨ (f = true ∧ ∃ z ∈ ps, z.1.pos = (Y.length : Int) ∧ Y' = Y ++ z.1.bs)
theorem told_small {most : Int} {S : List PartD} {j : Nat} {Y : List UInt8} (h : Told most S j Y) (hS : S.length ≤ 1048577) (hb : ∀ q ∈ S, q.bs.length ≤ 1048576) : Y.length ≤ 1099512676352 := by
  rw [h.len]
  have h1 := bytesP_le (ps := S.take j) (fun q hq => hb q (List.mem_of_mem_take hq))
  have h2 : (S.take j).length ≤ S.length := by rw [List.length_take]; omega
  omega

set_option maxRecDepth 100000 in
set_option maxHeartbeats 4000000 in
theorem whole_any (w : World) (gx c : Nat) (ps : List (PartD × Value)) (S : List PartD) (most : Int) (hS : Seq most S) (hperm : (ps.map (·.1)).Perm S) (hl : ps.length ≤ c) (hc : c ≤ 9223372036854775807) (hpt : ∀ k z, ps[k]? = some z → PtAt w gx (k * 39) z.1 z.2)
    (hok : ∀ z ∈ ps, z.1.nm.ok ∧ Bs w z.2 z.1.bs) (hmost : most ≤ 9223372036854775807) (hn : ps.length ≤ 1048577) (hbl : ∀ z ∈ ps, z.1.bs.length ≤ 1048576) :
    Calls Try.prog 83 #[.slice (some ⟨gx, 0, none⟩) ps.length c] w (WholeRet w S) := by
  have HS := Lib.hid hS
  have HPT := Lib.hid hpt
  have HOK := Lib.hid hok
  have HBL := Lib.hid hbl
  have HMEM : Hid (∀ z ∈ ps, z.1 ∈ S) := Lib.hid (fun z hz => hperm.subset (List.mem_map_of_mem hz))
  have HPER : Hid (∀ q ∈ S, ∃ z ∈ ps, z.1 = q) := Lib.hid (fun q hq => by
    obtain ⟨z, hz, e⟩ := List.mem_map.1 (hperm.symm.subset hq)
    exact ⟨z, hz, e⟩)
  have HSL : Hid (S.length ≤ 1048577 ∧ ∀ q ∈ S, q.bs.length ≤ 1048576) := Lib.hid ⟨by have := hperm.length_eq; rw [List.length_map] at this; omega, fun q hq => by
    obtain ⟨z, hz, e⟩ := HPER.out q hq
    rw [← e]; exact hbl z hz⟩
  obtain ⟨n, hnn⟩ : ∃ n, n = ps.length := ⟨_, rfl⟩
  rw [← hnn] at hl hn ⊢
  have HN := Lib.hid hnn
  obtain ⟨Q, hQ⟩ : ∃ Q, Q = WholeRet w S := ⟨_, rfl⟩
  rw [← hQ]
  have HQ := Lib.hid hQ
  clear hS hperm hpt hok hbl hnn hQ
  go_enter Try.func83, Try.ntmps83
  go_wp2_with fail
  go_loopw [4, 5] (fun s4 s5 wr => ∃ (k : Nat) (E : Int), s5 = .int .i64 k ∧ s4 = .int .i64 E ∧ k ≤ n ∧ -1 ≤ E ∧ E ≤ 9223372036854775807 ∧ Hid (EndS ps k E) ∧ Hid (Below w.heap.size w wr)) (fun _ s5 _ => n - (intOf s5).toNat)
  case atStart => exact ⟨0, -1, rfl, rfl, Nat.zero_le _, by omega, by omega, .inl ⟨rfl, fun i z _ h => absurd h (by omega)⟩, Below.refl _ _⟩
  case round =>
    obtain ⟨k, E, rfl, rfl, hk, hE1, hE2, HE, HB⟩ := hrel
    by_cases hlt : k < n
    · obtain ⟨z, hz⟩ : ∃ z, ps[k]? = some z := ⟨ps[k]'(by rw [← HN.out]; exact hlt), by rw [List.getElem?_eq_getElem]⟩
      have hzm := List.mem_of_getElem? hz
      obtain ⟨q1, q2, q3⟩ := ((HPT.out k z hz).below HB.out).cells (HOK.out z hzm).1
      obtain ⟨az, cz, hzv, hz1, hz2, _⟩ := (HOK.out z hzm).2
      rw [hzv] at q3
      have hfin := may_spec (HS.out.may z.1 (HMEM.out z hzm))
      have hf0 : -1 ≤ z.1.fin := by unfold PartD.fin; omega
      have hf1 : z.1.fin ≤ 9223372036854775807 := by omega
      have HZ := Lib.hid hz
      have HZM := Lib.hid hzm
      have hs1 : IntKind.i64.wrap (z.1.pos + (z.1.bs.length : Int)) = z.1.fin := by
        show IntKind.i64.wrap z.1.fin = _
        rw [IntKind.wrap_i64]; omega
      unfold maxLen at hz2
      clear hz hzm hfin hzv
      rcases hmo : z.1.more with _ | _
      · have HMO := Lib.hid hmo
        rw [hmo] at q2
        clear hmo
        go_wp2_with fail
        go_quiet (fail)
        go_wp2_with fail
        go_roundw
        case rel => exact ⟨k + 1, z.1.fin, by go_num, rfl, by omega, hf0, hf1, .inr ⟨z, HZM.out, HMO.out, rfl⟩, HB.out.then (below_drewN _ _)⟩
        case measure => simp [intOf]; omega
      · have HMO := Lib.hid hmo
        rw [hmo] at q2
        clear hmo
        go_wp2_with fail
        go_roundw
        case rel => exact ⟨k + 1, E, by go_num, rfl, by omega, hE1, hE2, HE.out.imp (fun h => ⟨h.1, fun i y hy hi => by
          by_cases hik : i = k
          · subst hik
            rw [HZ.out] at hy; cases hy; exact HMO.out
          · exact h.2 i y hy (by omega)⟩) id, HB.out⟩
        case measure => simp [intOf]; omega
    · obtain rfl : k = n := by omega
      have HEE : Hid ((E = -1 ∧ wholeB S = false) ∨ ∃ q ∈ S, q.more = false ∧ E = q.fin) := Lib.hid (by
        rcases HE.out with h | ⟨z, hz, h1, h2⟩
        · refine .inl ⟨h.1, HS.out.all_more (fun q hq => ?_)⟩
          obtain ⟨z, hz, e⟩ := HPER.out q hq
          obtain ⟨i, hi⟩ := List.getElem?_of_mem hz
          rw [← e]
          exact h.2 i z hi (by rw [HN.out]; exact (List.getElem?_eq_some_iff.1 hi).1)
        · exact .inr ⟨z.1, HMEM.out z hz, h1, h2⟩)
      clear HE hlt
      go_wp2_with fail
      go_loopw [6] (fun s6 wz => ∃ (Y : List UInt8) (ya : Option Addr) (yc : Nat), s6 = .slice ya Y.length yc ∧ Y.length ≤ 1099512676352 ∧ Hid (∃ j, Told most S j Y) ∧ Hid (Own wz w.heap.size (.slice ya Y.length yc) Y) ∧ Hid (Below w.heap.size w wz)) (fun s6 _ => E.toNat - lenV s6)
      case atStart => exact ⟨[], none, 0, rfl, by simp, ⟨0, told_start S⟩, own_nil _ _, HB.out⟩
      case round =>
        obtain ⟨Y, ya, yc, rfl, hY, HT, HO, HB2⟩ := hrel
        by_cases hlt : (Y.length : Int) < E
        · have HEQ : Hid (∃ q ∈ S, q.more = false ∧ E = q.fin) := Lib.hid (HEE.out.resolve_left (fun h => by have := h.1; omega))
          go_wp2_with fail
          go_loopw [6, 7, 8] (fun s6 s7 s8 wy => ∃ (i : Nat) (f : Bool) (Y' : List UInt8) (ya' : Option Addr) (yc' : Nat), s8 = .int .i64 i ∧ s7 = .bool f ∧ s6 = .slice ya' Y'.length yc' ∧ i ≤ k ∧ Hid (FndS ps Y i f Y') ∧ Hid (Own wy w.heap.size (.slice ya' Y'.length yc') Y') ∧ Hid (Below w.heap.size w wy)) (fun _ _ s8 _ => k - (intOf s8).toNat)
          case atStart => exact ⟨0, false, Y, ya, yc, rfl, rfl, rfl, Nat.zero_le _, .inl ⟨rfl, rfl, fun i z _ h => absurd h (by omega)⟩, HO.out, HB2.out⟩
          case round =>
            obtain ⟨i, f, Y', ya', yc', rfl, rfl, rfl, hi, HF, HO3, HB3⟩ := hrel
            rcases HF.out with ⟨rfl, hYY, hno⟩ | ⟨rfl, hfz⟩
            · subst hYY
              have HNO := Lib.hid hno
              clear hno HF
              by_cases hik : i < k
              · obtain ⟨z, hz⟩ : ∃ z, ps[i]? = some z := ⟨ps[i]'(by rw [← HN.out]; exact hik), by rw [List.getElem?_eq_getElem]⟩
                have hzm := List.mem_of_getElem? hz
                obtain ⟨q1, q2, q3⟩ := ((HPT.out i z hz).below HB3.out).cells (HOK.out z hzm).1
                have HBZ : Hid (Bs wr z.2 z.1.bs) := Lib.hid ((HOK.out z hzm).2.below HB3.out)
                obtain ⟨az, cz, hzv, hz1, hz2, _⟩ := (HOK.out z hzm).2
                have hzl := HBL.out z hzm
                have HZ := Lib.hid hz
                have HZM := Lib.hid hzm
                clear hz hzm
                by_cases hp : z.1.pos = (Y'.length : Int)
                · have b1 : (z.1.pos == (Y'.length : Int)) = true := by rw [beq_iff_eq]; exact hp
                  have HP := Lib.hid hp
                  rw [hzv] at q3 HBZ
                  clear hp q2
                  go_wp2_with (at_builtin; go_loud (refine wpList_app' rfl _ _ rfl w.heap.size _ Y' rfl HO3.out _ z.1.bs rfl HBZ.out (by omega) HB3.out.size ?_; intro Y2 a2 c2 w8 E2 O2 L2 N2 hc2))
                  go_roundw
                  case rel => exact ⟨i + 1, true, Y2, a2, c2, by go_num, rfl, rfl, by omega, .inr ⟨rfl, z, HZM.out, HP.out, E2.out⟩, O2.out, HB3.out.trans L2.out⟩
                  case measure => simp [intOf]; omega
                · have b1 : (z.1.pos == (Y'.length : Int)) = false := by rw [beq_eq_false_iff_ne]; exact hp
                  have HP := Lib.hid hp
                  clear hp q2 q3
                  go_wp2_with fail
                  go_roundw
                  case rel => exact ⟨i + 1, false, Y', ya', yc', by go_num, rfl, rfl, by omega, .inl ⟨rfl, rfl, fun m y hy hm => by
                    by_cases hmi : m = i
                    · subst hmi
                      rw [HZ.out] at hy; cases hy; exact HP.out
                    · exact HNO.out m y hy (by omega)⟩, HO3.out, HB3.out⟩
                  case measure => simp [intOf]; omega
              · obtain rfl : i = k := by omega
                have HW : Hid (wholeB S = false) := Lib.hid (by
                  obtain ⟨j, ht⟩ := HT.out
                  obtain ⟨q, hq, hm, he⟩ := HEQ.out
                  refine ht.stuck HS.out hq hm (by rw [← he]; exact hlt) (fun x hx => ?_)
                  obtain ⟨z, hz, e⟩ := HPER.out x hx
                  obtain ⟨m, hm⟩ := List.getElem?_of_mem hz
                  rw [← e]
                  exact HNO.out m z hm (by rw [HN.out]; exact (List.getElem?_eq_some_iff.1 hm).1))
                go_wp2_with fail
                rw [HQ.out]
                exact ⟨⟨_, by rw [HW.out]; rfl, fun h => by rw [HW.out] at h; cases h⟩, HB3.out⟩
            · obtain ⟨z, hzm, hzp, hY2⟩ := hfz
              have HT2 : Hid ((∃ j, Told most S j Y') ∧ Y.length < Y'.length) := Lib.hid (by
                obtain ⟨j, ht⟩ := HT.out
                have := ht.step HS.out (HMEM.out z hzm) hzp
                rw [← hY2] at this
                refine ⟨⟨_, this.1⟩, ?_⟩
                rw [hY2, List.length_append]; omega)
              have hY3 : Y'.length ≤ 1099512676352 := by obtain ⟨j, ht⟩ := HT2.out.1; exact told_small ht HSL.out.1 HSL.out.2
              clear hzm hzp hY2 HF
              by_cases hik : i < k
              · go_wp2_with fail
                go_roundw
                case rel => exact ⟨Y', ya', yc', rfl, hY3, HT2.out.1, HO3.out, HB3.out⟩
                case measure => have := HT2.out.2; simp [lenV]; omega
              · go_wp2_with fail
                go_roundw
                case rel => exact ⟨Y', ya', yc', rfl, hY3, HT2.out.1, HO3.out, HB3.out⟩
                case measure => have := HT2.out.2; simp [lenV]; omega
        · have HD : Hid ((wholeB S = true ∧ Y = joinB S ∧ 0 ≤ E) ∨ (wholeB S = false ∧ ¬ 0 ≤ E)) := Lib.hid (by
            rcases HEE.out with ⟨h1, h2⟩ | ⟨q, hq, hm, he⟩
            · exact .inr ⟨h2, by omega⟩
            · obtain ⟨j, ht⟩ := HT.out
              have := ht.done HS.out hq hm (by rw [← he]; omega)
              have h3 := PartD.pos_lt (HS.out.may q hq)
              have h4 := (may_spec (HS.out.may q hq)).2.1
              exact .inl ⟨this.1, this.2, by omega⟩)
          rcases HD.out with ⟨h1, h2, h3⟩ | ⟨h1, h3⟩
          · have H1 := Lib.hid h1
            have H2 := Lib.hid h2
            have d3 : decide ((0 : Int) ≤ E) = true := decide_eq_true h3
            clear h1 h2 HD
            go_wp2_with fail
            rw [HQ.out]
            exact ⟨⟨_, by rw [H1.out], fun _ => by rw [← H2.out]; exact HO.out⟩, HB2.out⟩
          · have H1 := Lib.hid h1
            have d3 : decide ((0 : Int) ≤ E) = false := decide_eq_false h3
            clear h1 HD
            go_wp2_with fail
            rw [HQ.out]
            exact ⟨⟨_, by rw [H1.out], fun h => by rw [H1.out] at h; cases h⟩, HB2.out⟩
end Go.Proofs.Ytnckmaieghlpmaa
