/-
  The reference's New and Live.
-/
import Derived.Test.YtnckmaieghlpmaaRf5
namespace Go.Proofs.Ytnckmaieghlpmaa
open Go.RowKit
set_option linter.unusedVariables false
set_option linter.unusedSimpArgs false
attribute [local go_sem ↓] Go.wp_at_zero Go.wp_at_succ

theorem rnew_any (w : World) (many most : Int) :
    Calls Try.prog 50 #[.int .i64 many, .int .i64 most] w fun e w' => e = .returned (.pointer (some ⟨w.heap.size, 0, none⟩)) ∧ w' = w.alloc (.cells #[.int .i64 many, .int .i64 most, .slice none 0 0] 118) := by
  go_enter Try.func50, Try.ntmps50
  go_wp2_with fail
  go_ret
  exact ⟨rfl, rfl⟩

set_option maxRecDepth 100000 in
set_option maxHeartbeats 4000000 in
theorem rlive_any (w : World) (M : Nat → Prop) (F : Nat) (many most : Int) (T : List PkT) (hT : TabR w M F many most T) (hO : OkT many most T) (hsm : SmT T) : Calls Try.prog 54 #[.pointer (some ⟨F, 0, none⟩)] w (LiveRet w T) := by
  obtain ⟨lv, L, hL, rfl⟩ := hT
  obtain ⟨a, c, rfl, h1, h2⟩ := hL.lvshape
  have HL := Lib.hid hL
  have HO := Lib.hid hO
  have HSM := Lib.hid hsm
  have k1 := hL.cells.2.2.1
  obtain ⟨n, hn⟩ : ∃ n, n = L.length := ⟨_, rfl⟩
  have HN := Lib.hid hn
  rw [← hn] at h1 k1 HL
  have hnle : n ≤ 1048576 := by rw [hn]; have := HSM.out.1; rwa [List.length_map] at this
  obtain ⟨Q, hQ⟩ : ∃ Q, Q = LiveRet w (L.map RkM.T) := ⟨_, rfl⟩
  rw [← hQ]
  have HQ := Lib.hid hQ
  clear hn hQ hL hO hsm
  go_enter Try.func54, Try.ntmps54
  go_wp2_with fail
  go_loop [4, 5] (fun b ix => ∃ k B0 : Nat, ix = .int .i64 k ∧ b = .int .i64 B0 ∧ k ≤ n ∧ B0 ≤ 1099511627776 * k ∧ Hid (B0 = bytesT ((L.map RkM.T).take k))) (fun _ ix => n - (intOf ix).toNat)
  case atStart => exact ⟨0, 0, rfl, rfl, Nat.zero_le _, Nat.zero_le _, Lib.hid (by simp [bytesT])⟩
  case round =>
    obtain ⟨k, B0, rfl, rfl, hk, hB0, HX⟩ := hrel
    by_cases hlt : k < n
    · obtain ⟨x, hx⟩ : ∃ x, L[k]? = some x := ⟨L[k]'(by rw [← HN.out]; exact hlt), by rw [List.getElem?_eq_getElem]⟩
      have hxm := List.mem_of_getElem? hx
      have hpt := HL.out.part HO.out hxm
      have hokz : ∀ z ∈ x.ps, z.1.nm.ok := fun z hz => by rw [(hpt.2.2 z hz).1]; exact hpt.2.1.1
      obtain ⟨gl, cl, hlv, _, _, _, hcells⟩ := HL.out.shape hx
      cases hlv
      obtain ⟨gx, cx, hxv, hx1, hx2, _, hpts⟩ := HL.out.row hxm hpt.1 hokz
      have q1 := hcells k x hx
      rw [hxv] at q1
      have HPTS := Lib.hid hpts
      have HOKZ := Lib.hid (fun z hz => And.intro (hokz z hz) (HL.out.bs x hxm z hz).1)
      have HTS : Hid (bytesT ((L.map RkM.T).take (k + 1)) = bytesT ((L.map RkM.T).take k) + bytesP (x.ps.map (·.1))) := Lib.hid (by
        rw [bytesP_perm (HL.out.sim x hxm)]
        exact bytesT_snoc (T := L.map RkM.T) (k := x.T) (by rw [List.getElem?_map, hx]; rfl))
      have hxs := HSM.out.2 x.T (List.mem_map_of_mem hxm)
      have HSZ : Hid (∀ z ∈ x.ps, z.1.bs.length ≤ 1048576) := Lib.hid (fun z hz => hxs.2 z.1 (hpt.2.2 z hz).2.2)
      obtain ⟨m, hm⟩ : ∃ m, m = x.ps.length := ⟨_, rfl⟩
      have hml : m ≤ 1048576 := by
        rw [hm]
        have h3 := hxs.1
        have h4 := (HL.out.sim x hxm).length_eq
        rw [List.length_map] at h4
        rw [h4]; exact h3
      rw [← hm] at q1 hx1
      have HMM := Lib.hid hm
      clear hpt hokz hcells hpts hx hxm hm hxs hxv
      go_wp2_with fail
      go_loop [4, 6] (fun b jx => ∃ j B1 : Nat, jx = .int .i64 j ∧ b = .int .i64 B1 ∧ j ≤ m ∧ B1 ≤ B0 + 1048576 * j ∧ Hid (B1 = B0 + bytesP ((x.ps.map (·.1)).take j))) (fun _ jx => m - (intOf jx).toNat)
      case atStart => exact ⟨0, B0, rfl, rfl, Nat.zero_le _, by omega, Lib.hid (by simp [bytesP])⟩
      case round =>
        obtain ⟨j, B1, rfl, rfl, hj, hB1, HY⟩ := hrel
        by_cases hlt2 : j < m
        · obtain ⟨q, hq⟩ : ∃ q, x.ps[j]? = some q := ⟨x.ps[j]'(by rw [← HMM.out]; exact hlt2), by rw [List.getElem?_eq_getElem]⟩
          have hqm := List.mem_of_getElem? hq
          have q2 := ((HPTS.out j q hq).cells (HOKZ.out q hqm).1).2.2
          obtain ⟨aq, cq, hqv, _, _⟩ := ownsRow_shape (HOKZ.out q hqm).2
          rw [hqv] at q2
          have hql := HSZ.out q hqm
          have HSQ : Hid (bytesP ((x.ps.map (·.1)).take (j + 1)) = bytesP ((x.ps.map (·.1)).take j) + q.1.bs.length) := Lib.hid (bytesP_snoc (by rw [List.getElem?_map, hq]; rfl))
          obtain ⟨lq, hlq⟩ : ∃ l, l = q.1.bs.length := ⟨_, rfl⟩
          rw [← hlq] at q2 hql
          have HLQ := Lib.hid hlq
          clear hq hqm hqv hlq
          go_wp2_with fail
          go_round
          case rel => exact ⟨j + 1, B1 + lq, by go_num, by go_num, by omega, by omega, Lib.hid (by rw [HSQ.out, ← HLQ.out, HY.out]; omega)⟩
          case measure => simp [intOf]; omega
        · obtain rfl : j = m := by omega
          have HSQ : Hid (bytesP ((x.ps.map (·.1)).take j) = bytesP (x.ps.map (·.1))) := Lib.hid (by rw [List.take_of_length_le (by rw [List.length_map, HMM.out]; exact Nat.le_refl _)])
          go_wp2_with fail
          go_round
          case rel => exact ⟨k + 1, B1, by go_num, rfl, by omega, by omega, Lib.hid (by rw [HY.out, HSQ.out, HTS.out, HX.out])⟩
          case measure => simp [intOf]; omega
    · obtain rfl : k = n := by omega
      have HBB : Hid (B0 = bytesT (L.map RkM.T)) := Lib.hid (by
        rw [HX.out, List.take_of_length_le (by rw [List.length_map, HN.out]; exact Nat.le_refl _)])
      go_wp2_with fail
      rw [HQ.out]
      exact ⟨by rw [List.length_map, ← HN.out, ← HBB.out], Below.refl _ _⟩
end Go.Proofs.Ytnckmaieghlpmaa
