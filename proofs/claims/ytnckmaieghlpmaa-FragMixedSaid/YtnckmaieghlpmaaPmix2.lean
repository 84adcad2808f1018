/-
  The walk of horologelaw17.mix.
-/
import Derived.Test.YtnckmaieghlpmaaPmix
namespace Go.Proofs.Ytnckmaieghlpmaa
open Go.RowKit
set_option linter.unusedVariables false
set_option linter.unusedSimpArgs false
attribute [local go_sem ↓] fold_ld54 fold_st54 fold_ld90 fold_st90 fold_ld121 fold_st121 fold_ld124 fold_st124 Go.wp_at_zero Go.wp_at_succ
attribute [local go_sem] ld54_at st54_at ld90_at st90_pt ld121_at st121_nm ld124_at free_new1 bx36 bx37 bx38 bxhas bxrd

/-- a row of parts that is the call's own -/
structure RowP (w : World) (base : Nat) (v : Value) (n : Nat) (L : List (PartD × Value)) : Prop where
  own : w.ownsRow base 90 39 v n (ptRow L)
  len : L.length = n
  ok : ∀ z ∈ L, z.1.nm.ok ∧ z.2.oneCell' = true
theorem RowP.keep {w w' : World} {base n : Nat} {v : Value} {L : List (PartD × Value)} (h : RowP w base v n L) (hb : ∀ k, v.ownBlock = some k → w'.heap[k]? = w.heap[k]?) : RowP w' base v n L := ⟨ownsRow_keep h.own hb, h.len, h.ok⟩
theorem RowP.below {w w' : World} {base n : Nat} {v : Value} {L : List (PartD × Value)} (h : RowP w base v n L) (hb : Below w.heap.size w w') : RowP w' base v n L :=
  h.keep (fun k hk => hb.block k (World.ownsRow.lt h.own k hk).2)
theorem RowP.at {w : World} {base n g c : Nat} {v : Value} {L : List (PartD × Value)} (h : RowP w base v n L) (hv : v = .slice (some ⟨g, 0, none⟩) n c) {i : Nat} {x : PartD × Value} (hx : L[i]? = some x) : PtAt w g (i * 39) x.1 x.2 ∧ free w g (i * 39) 39 = true := by
  have hown := h.own
  have hn := h.len
  have hi := (List.getElem?_eq_some_iff.1 hx).1
  rw [← hn] at hown
  obtain ⟨a, c', e, _, _, hat⟩ := ps_of_own (fun z hz => (h.ok z hz).1) hown
  rw [hn, hv] at e
  cases e
  refine ⟨?_, ?_⟩
  · rcases hat with hat | ⟨b, o, hbo, hat⟩
    · rw [hat] at hx; simp at hx
    · cases hbo
      have := hat i x hx
      rwa [Nat.zero_add] at this
  · rw [free_spec]
    rcases h.own.2 with ⟨e, _⟩ | ⟨g', cap, cur, e, hbg, hg, hnc, hcm, hcs, htake⟩
    · rw [hv] at e; cases e
    · rw [hv] at e
      cases e
      have hm1 : (i + 1) * 39 ≤ n * 39 := Nat.mul_le_mul_right 39 (by omega)
      have hm2 : n * 39 ≤ c * 39 := Nat.mul_le_mul_right 39 hnc
      have hm3 : (i + 1) * 39 = i * 39 + 39 := Nat.succ_mul i 39
      intro j hj
      exact ⟨by rw [cell_of_row w g _ cur 90 (0, 0) hg, Array.getElem?_eq_getElem (by omega)]; rfl, frozen_of_row w g _ cur 90 hg⟩
theorem RowP.put {w : World} {base n g c : Nat} {v : Value} {L : List (PartD × Value)} (h : RowP w base v n L) (hv : v = .slice (some ⟨g, 0, none⟩) n c) {i : Nat} (hi : i < n) {x : PartD × Value} (hx : x.1.nm.ok ∧ x.2.oneCell' = true) : RowP (w.setCells g (i * 39) (partL x.1 x.2)) base v n (L.set i x) :=
  ⟨row_put h.own h.len (fun z hz => (h.ok z hz).1) hi hx.1 hx.2 hv, by rw [List.length_set]; exact h.len, fun z hz => by
    rcases List.mem_or_eq_of_mem_set hz with hz | rfl
    · exact h.ok z hz
    · exact hx⟩
theorem only_sets {M : Nat → Prop} {a b : World} (h : Only M a b) {g : Nat} (hg : M g) : ∀ (vs : List Value) (o : Nat), Only M a (b.setCells g o vs) := by
  intro vs
  induction vs generalizing b with
  | nil => intro o; exact h
  | cons v vs ih => intro o; exact ih (h.setCell (p := ⟨g, o, none⟩) hg v) (o + 1)
def MixR (w : World) (base n : Nat) (v : Value) (L : List (PartD × Value)) (wr : World) : Prop := ∃ L', L'.Perm L ∧ RowP wr base v n L' ∧ Only (fun k => v.ownBlock = some k) w wr

set_option maxRecDepth 100000 in
set_option maxHeartbeats 8000000 in
theorem mix_any (w : World) (base n : Nat) (v vs : Value) (L : List (PartD × Value)) (sws : List UInt8) (hrow : RowP w base v n L) (hn : n ≤ 1048576) (hs : Bs w vs sws) (hne : sws ≠ [] → ∀ k, vs.ownBlock = some k → v.ownBlock ≠ some k) :
    Calls Try.prog 55 #[v, vs] w fun e w' => e = .returned v ∧ MixR w base n v L w' := by
  have HR := Lib.hid hrow
  have HS := Lib.hid hs
  have HNE := Lib.hid hne
  obtain ⟨a, c, rfl, hc1, hc2⟩ := ownsRow_shape hrow.own
  obtain ⟨asw, cs, rfl, hl1, hl2, hat⟩ := hs
  obtain ⟨ls, hls⟩ : ∃ l, l = sws.length := ⟨_, rfl⟩
  rw [← hls] at hl1 ⊢
  unfold maxLen at hl2
  have HLS := Lib.hid hls
  have HAT := Lib.hid hat
  have w1 : IntKind.i64.wrap ((n : Int) - 1) = (n : Int) - 1 := by rw [IntKind.wrap_i64]; omega
  clear hrow hne hat hls
  go_enter Try.func55, Try.ntmps55
  go_wp2_with fail
  go_loopw [5] (fun s5 wr => ∃ j : Int, s5 = .int .i64 j ∧ -1 ≤ j ∧ j < n ∧ Hid (MixR w base n (.slice a n c) L wr)) (fun s5 _ => (intOf s5 + 1).toNat)
  case atStart => exact ⟨(n : Int) - 1, rfl, by omega, by omega, L, List.Perm.refl _, HR.out, Only.refl _ _⟩
  case round =>
    obtain ⟨j, rfl, hj1, hj2, HM⟩ := hrel
    clear w1
    by_cases hj0 : 0 < j
    · by_cases hs0 : ls = 0
      · subst hs0
        go_wp2_with fail
        go_ret
        exact ⟨rfl, HM.out⟩
      · obtain ⟨L', hperm, hrow, hon⟩ := HM.out
        obtain ⟨i, rfl⟩ := Int.eq_ofNat_of_zero_le (show 0 ≤ j by omega)
        obtain ⟨r, hr, hr2⟩ : ∃ r : Nat, (i : Int).tmod (ls : Int) = r ∧ r < ls := ⟨i % ls, by rw [Int.tmod_eq_emod_of_nonneg (by omega)]; omega, Nat.mod_lt _ (by omega)⟩
        obtain ⟨sw, hsw⟩ : ∃ s, sws[r]? = some s := ⟨sws[r]'(by rw [← HLS.out]; exact hr2), by rw [List.getElem?_eq_getElem]⟩
        have hsw255 := sw.toNat_lt
        obtain ⟨sn, hsn⟩ : ∃ s, s = sw.toNat := ⟨_, rfl⟩
        obtain ⟨k, hk, hki⟩ : ∃ k : Nat, (sn : Int).tmod ((i : Int) + 1) = k ∧ k ≤ i := ⟨sn % (i + 1), by rw [Int.tmod_eq_emod_of_nonneg (by omega), Int.natCast_emod, Int.natCast_add]; rfl, by have := Nat.mod_lt sn (show 0 < i + 1 by omega); omega⟩
        obtain ⟨b, o, rfl, hby⟩ : ∃ b o, asw = some ⟨b, o, none⟩ ∧ ∀ q x, sws[q]? = some x → w.cell? ⟨b, o + q, none⟩ = some (.int .u8 (x.toNat : Int)) := by
          rcases HAT.out with h | h
          · rw [h] at hsw; simp at hsw
          · exact h
        have hcb := hon.cell (hby r sw hsw) (HNE.out (by intro e; rw [e] at hsw; simp at hsw) b rfl)
        rw [← hsn] at hcb
        have HROW := Lib.hid hrow
        have HON := Lib.hid hon
        have HPM := Lib.hid hperm
        obtain ⟨g, c0, hv, _, _⟩ := own_some hrow.own (by omega)
        cases hv
        obtain ⟨x, hx⟩ : ∃ x, L'[i]? = some x := ⟨L'[i]'(by rw [hrow.len]; omega), by rw [List.getElem?_eq_getElem]⟩
        obtain ⟨y, hy⟩ : ∃ y, L'[k]? = some y := ⟨L'[k]'(by rw [hrow.len]; omega), by rw [List.getElem?_eq_getElem]⟩
        have HX := Lib.hid hx
        have HY := Lib.hid hy
        obtain ⟨hokx, honex⟩ := hrow.ok x (List.mem_of_getElem? hx)
        obtain ⟨hoky, honey⟩ := hrow.ok y (List.mem_of_getElem? hy)
        have g1 := (hrow.at rfl hx).1.has hokx
        have g2 := (hrow.at rfl hx).1.rd hokx
        have hl0 : ¬ ((i : Int) + 1 = 0) := by omega
        have hr0 : (0 : Int) ≤ (r : Int) := by omega
        have hr3 : (r : Int) < (ls : Int) := by omega
        have hlsn : ¬ (ls = 0) := hs0
        have hls0 : (0 : Int) < (ls : Int) := by omega
        have hsn255 : (sn : Int) ≤ 255 := by omega
        have e1 : IntKind.i64.wrap (sn : Int) = (sn : Int) := by rw [IntKind.wrap_i64]; omega
        clear hrow hon hperm hx hy hby hsw hsn HM HAT
        go_upto_region 5 with fail
        obtain ⟨wo, rfl⟩ : ∃ wo : World, wo = wr := ⟨_, rfl⟩
        go_cut [7] (fun s7 wx => ∃ q, s7 = .pointer (some ⟨q, 0, none⟩) ∧ Hid (Boxed wo x q wx))
        case first =>
          go_wp2_with fail
          go_meet
          case rel => exact ⟨_, rfl, boxed_new wo x hokx rfl⟩
        case rest =>
          obtain ⟨q, rfl, HBX⟩ := hcut
          obtain ⟨wb, rfl⟩ : ∃ wb : World, wb = wc := ⟨_, rfl⟩
          clear g1 g2 hcb
          have HRB := Lib.hid (HROW.out.below HBX.out.2.2.2.2)
          have HRP := Lib.hid (HRB.out.put rfl (show i < n by omega) ⟨hoky, honey⟩)
          have HQG : Hid (q ≠ g) := Lib.hid (fun e => by
            have h1 := (World.ownsRow.lt HROW.out.own g rfl).2
            have h2 := HBX.out.2.2.1
            omega)
          have g1 := (HRB.out.at rfl HY.out).1.has hoky
          have g2 := (HRB.out.at rfl HY.out).1.rd hoky
          have g3 := (HRB.out.at rfl HX.out).2
          have HPQ : Hid (PtAt (wb.setCells g (i * 39) (partL y.1 y.2)) q 0 x.1 x.2) := Lib.hid (World.rangeAt_setCells_apart HBX.out.1 g (i * 39) _ (.inl HQG.out))
          have g4 := HPQ.out.has hokx
          have g5 := HPQ.out.rd hokx
          obtain ⟨z, hz⟩ : ∃ z, (L'.set i y)[k]? = some z := ⟨(L'.set i y)[k]'(by rw [HRP.out.len]; omega), by rw [List.getElem?_eq_getElem]⟩
          have g6 := (HRP.out.at rfl hz).2
          have HE : Hid (MixR w base n (.slice (some ⟨g, 0, none⟩) n c) L ((wb.setCells g (i * 39) (partL y.1 y.2)).setCells g (k * 39) (partL x.1 x.2))) := Lib.hid ⟨_, (perm_swap HX.out HY.out).trans HPM.out, HRP.out.put rfl (show k < n by omega) ⟨hokx, honex⟩, only_sets (M := fun k => (Value.slice (some ⟨g, 0, none⟩) n c).ownBlock = some k) (only_sets (M := fun k => (Value.slice (some ⟨g, 0, none⟩) n c).ownBlock = some k) (HON.out.then HBX.out.2.2.2.2) rfl _ _) rfl _ _⟩
          clear hz
          go_wp2_with fail
          go_roundw
          case rel => exact ⟨(i : Int) - 1, rfl, by omega, by omega, HE.out⟩
          case measure => simp [intOf] <;> omega
    · go_wp2_with fail
      go_ret
      exact ⟨rfl, HM.out⟩
end Go.Proofs.Ytnckmaieghlpmaa
