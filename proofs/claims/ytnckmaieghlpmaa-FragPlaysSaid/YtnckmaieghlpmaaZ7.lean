/-
  (*Frags).Live.
  (*Frags).Take, for every part: in one contract.
  A table with what is known of it; Take, Live, New on it.
-/
import Derived.Test.YtnckmaieghlpmaaZ6
import Derived.Test.YtnckmaieghlpmaaPtake
namespace Go.Proofs.Ytnckmaieghlpmaa
open Go.RowKit
set_option linter.unusedVariables false
set_option linter.unusedSimpArgs false

theorem st124_pk {w : World} {b o : Nat} {n : NameD} {v : Value} (hn : n.ok) (hv : v.oneCell' = true) (h : free w b o 37 = true) : stA 124 w (.pointer (some ⟨b, o, none⟩)) (.agg (pkA n v)) = Result.ok Next.skip (w.setCells b o (pkL n v)) :=
  st124_at (pkA_size hn v) (pkA_one hv) h
section
variable {w : World} {Z : Array Value} {n : NameD} {v : Value}
theorem bk_at (hn : n.ok) (hZ : Z.size = 37) : PkAt ((w.alloc (.cells Z 124)).setCells w.heap.size 0 (pkL n v)) w.heap.size 0 n v :=
  World.rangeAt_setCells_same _ _ _ _ (free_spec.1 (by rw [pkL_len hn, free_new1, hZ]; rfl))
theorem bk36 (hn : n.ok) (hZ : Z.size = 37) : ((w.alloc (.cells Z 124)).setCells w.heap.size 0 (pkL n v)).cell? ⟨w.heap.size, 36, none⟩ = some v := by
  have := (bk_at (w := w) (v := v) hn hZ).cell hn
  rwa [Nat.zero_add] at this
theorem bk_below : Below w.heap.size w ((w.alloc (.cells Z 124)).setCells w.heap.size 0 (pkL n v)) := below_sets (Nat.le_refl _) _ _ (below_alloc w _)
end
attribute [local go_sem ↓] fold_ld54 fold_st54 fold_ld90 fold_st90 fold_ld121 fold_st121 fold_ld124 fold_st124 Go.wp_at_zero Go.wp_at_succ
attribute [local go_sem] ld54_at st54_at ld90_at st90_pt ld121_at st121_nm ld124_at st124_pk free_new1 bx36 bx37 bx38 bxhas bxrd bk36

/-- the bytes of a packet's parts, of a table's -/
def bytesP (ps : List PartD) : Nat := (ps.map fun q => q.bs.length).sum
def bytesT (T : List PkT) : Nat := (T.map fun k => bytesP k.2).sum
theorem bytesP_snoc {ps : List PartD} {j : Nat} {q : PartD} (h : ps[j]? = some q) : bytesP (ps.take (j + 1)) = bytesP (ps.take j) + q.bs.length := by
  unfold bytesP
  rw [List.take_add_one, h]; simp
theorem bytesT_snoc {T : List PkT} {j : Nat} {k : PkT} (h : T[j]? = some k) : bytesT (T.take (j + 1)) = bytesT (T.take j) + bytesP k.2 := by
  unfold bytesT
  rw [List.take_add_one, h]; simp
theorem bytesP_le {ps : List PartD} (h : ∀ q ∈ ps, q.bs.length ≤ 1048576) : bytesP ps ≤ 1048576 * ps.length := by
  induction ps with
  | nil => simp [bytesP]
  | cons a l ih =>
    have h1 := h a (by simp)
    have h2 := ih (fun z hz => h z (by simp [hz]))
    unfold bytesP at h2 ⊢
    rw [List.map_cons, List.sum_cons, List.length_cons]
    omega
theorem bytesT_le {T : List PkT} (h : ∀ k ∈ T, k.2.length ≤ 1048576 ∧ ∀ q ∈ k.2, q.bs.length ≤ 1048576) : bytesT T ≤ 1099511627776 * T.length := by
  induction T with
  | nil => simp [bytesT]
  | cons a l ih =>
    have h1 := h a (by simp)
    have h3 := bytesP_le h1.2
    have h2 := ih (fun z hz => h z (by simp [hz]))
    have h4 : 1048576 * a.2.length ≤ 1099511627776 := by have := h1.1; omega
    unfold bytesT at h2 ⊢
    rw [List.map_cons, List.sum_cons, List.length_cons]
    omega

def LiveRet (w : World) (T : List PkT) (e : Ending) (w' : World) : Prop := e = .returned (.tuple #[.int .i64 (T.length : Nat), .int .i64 (bytesT T : Nat)]) ∧ Below w.heap.size w w'
set_option maxRecDepth 100000 in
set_option maxHeartbeats 4000000 in
theorem live_any (w : World) (M : Nat → Prop) (F : Nat) (many most : Int) (T : List PkT) (hT : Tab w M F many most T) (hok : ∀ k ∈ T, k.1.ok ∧ ∀ q ∈ k.2, q.nm.ok) (hsm : SmT T) : Calls Try.prog 53 #[.pointer (some ⟨F, 0, none⟩)] w (LiveRet w T) := by
  obtain ⟨lv, L, hL, rfl⟩ := hT
  have hokr : ∀ x ∈ L.map PkM.row, x.1.ok := fun x hx => by
    obtain ⟨y, hy, rfl⟩ := List.mem_map.1 hx
    exact (hok y.T (List.mem_map_of_mem hy)).1
  have how := hL.own
  rw [← List.length_map (f := PkM.row)] at how
  obtain ⟨a, c, rfl, h1, h2, hpk⟩ := pks_of_own hokr how
  rw [List.length_map] at h1
  unfold maxLen at h2
  have k1 := hL.cells.2.2.1
  rw [List.length_map] at k1
  have HL := Lib.hid hL
  have HOK := Lib.hid hok
  have HPK := Lib.hid hpk
  have HSM := Lib.hid hsm
  clear hokr how hpk hL hok hsm
  obtain ⟨n, hn⟩ : ∃ n, n = L.length := ⟨_, rfl⟩
  have HN := Lib.hid hn
  rw [← hn] at h1 k1
  have hnle : n ≤ 1048576 := by rw [hn]; have := HSM.out.1; rwa [List.length_map] at this
  clear hn
  obtain ⟨Q, hQ⟩ : ∃ Q, Q = LiveRet w (L.map PkM.T) := ⟨_, rfl⟩
  rw [← hQ]
  have HQ := Lib.hid hQ
  clear hQ
  have HK1 := Lib.hid k1
  go_enter Try.func53, Try.ntmps53
  go_wp2_with fail
  go_loopw [3, 15] (fun b ix wr => ∃ k B0 : Nat, ix = .int .i64 k ∧ b = .int .i64 B0 ∧ k ≤ n ∧ B0 ≤ 1099511627776 * k ∧ Hid (B0 = bytesT ((L.map PkM.T).take k) ∧ Below w.heap.size w wr)) (fun _ ix _ => n - (intOf ix).toNat)
  case atStart => exact ⟨0, 0, rfl, rfl, Nat.zero_le _, Nat.zero_le _, by simp [bytesT], Below.refl _ _⟩
  case round =>
    obtain ⟨k, B0, rfl, rfl, hk, hB0, HX⟩ := hrel
    by_cases hlt : k < n
    · obtain ⟨x, hx⟩ : ∃ x, L[k]? = some x := ⟨L[k]'(by rw [← HN.out]; exact hlt), by rw [List.getElem?_eq_getElem]⟩
      have hxm := List.mem_of_getElem? hx
      obtain ⟨gl, o, rfl, hpk⟩ : ∃ gl o, a = some ⟨gl, o, none⟩ ∧ ∀ i y, (L.map PkM.row)[i]? = some y → PkAt w gl (o + i * 37) y.1 y.2 := by
        rcases HPK.out with h | h
        · have : L = [] := by simpa using h
          rw [this] at hx; simp at hx
        · exact h
      have hp1 := (hpk k x.row (by rw [List.getElem?_map, hx]; rfl)).below HX.out.2
      have hok : x.nm.ok := (HOK.out x.T (List.mem_map_of_mem hxm)).1
      have g1 := hp1.has hok
      have g2 : rd _ gl (o + k * 37) 37 = pkA x.nm x.v := hp1.rd hok
      have hone : x.v.oneCell' = true := own_one (HL.out.rows x hxm).1
      obtain ⟨ax, cx, hxv, e1, e2, hps⟩ := ps_row HL.out hxm (fun z hz => (HOK.out x.T (List.mem_map_of_mem hxm)).2 z.1 (List.mem_map_of_mem hz))
      have HPS := Lib.hid hps
      have HOKP : Hid (∀ z ∈ x.ps, z.1.nm.ok ∧ Own w 0 z.2 z.1.bs ∧ z.1.bs.length ≤ 1048576) := Lib.hid (fun z hz => ⟨(HOK.out x.T (List.mem_map_of_mem hxm)).2 z.1 (List.mem_map_of_mem hz), (HL.out.bs x hxm z hz).1, (HSM.out.2 x.T (List.mem_map_of_mem hxm)).2 z.1 (List.mem_map_of_mem hz)⟩)
      have HTS : Hid (bytesT ((L.map PkM.T).take (k + 1)) = bytesT ((L.map PkM.T).take k) + bytesP (x.ps.map (·.1))) := Lib.hid (bytesT_snoc (T := L.map PkM.T) (k := x.T) (by rw [List.getElem?_map, hx]; rfl))
      obtain ⟨m, hm⟩ : ∃ m, m = x.ps.length := ⟨_, rfl⟩
      have hml : m ≤ 1048576 := by
        rw [hm]
        have := (HSM.out.2 x.T (List.mem_map_of_mem hxm)).1
        simpa [PkM.T] using this
      rw [← hm] at hxv e1
      have HMM := Lib.hid hm
      rw [hxv] at g2 hone
      have hv1 : x.v = .slice ax m cx := hxv
      clear hp1 hpk hx hxm hps hm hxv hv1 HPK
      go_wp2_with fail
      obtain ⟨wo, rfl⟩ : ∃ wo : World, wo = wr := ⟨_, rfl⟩
      go_loopw [3, 22] (fun b jx wz => ∃ j B1 : Nat, jx = .int .i64 j ∧ b = .int .i64 B1 ∧ j ≤ m ∧ B1 ≤ B0 + 1048576 * j ∧ Hid (B1 = B0 + bytesP ((x.ps.map (·.1)).take j) ∧ Below w.heap.size w wz)) (fun _ jx _ => m - (intOf jx).toNat)
      case atStart => exact ⟨0, B0, rfl, rfl, Nat.zero_le _, by omega, by simp [bytesP], HX.out.2.then bk_below⟩
      case round =>
        obtain ⟨j, B1, rfl, rfl, hj, hB1, HY⟩ := hrel
        by_cases hlt2 : j < m
        · obtain ⟨q, hq⟩ : ∃ q, x.ps[j]? = some q := ⟨x.ps[j]'(by rw [← HMM.out]; exact hlt2), by rw [List.getElem?_eq_getElem]⟩
          have hqm := List.mem_of_getElem? hq
          obtain ⟨b, oo, rfl, hpt⟩ : ∃ b oo, ax = some ⟨b, oo, none⟩ ∧ ∀ i y, x.ps[i]? = some y → PtAt w b (oo + i * 39) y.1 y.2 := by
            rcases HPS.out with h | h
            · rw [h] at hq; simp at hq
            · exact h
          have hp1 := (hpt j q hq).below HY.out.2
          have hokq := (HOKP.out q hqm).1
          have f1 := hp1.has hokq
          have f2 := hp1.rd hokq
          obtain ⟨aq, cq, hqv, _, _⟩ := ownsRow_shape (HOKP.out q hqm).2.1
          have honeq : (Value.slice aq q.1.bs.length cq).oneCell' = true := rfl
          rw [hqv] at f2
          have hql := (HOKP.out q hqm).2.2
          have HSQ : Hid (bytesP ((x.ps.map (·.1)).take (j + 1)) = bytesP ((x.ps.map (·.1)).take j) + q.1.bs.length) := Lib.hid (bytesP_snoc (by rw [List.getElem?_map, hq]; rfl))
          obtain ⟨lq, hlq⟩ : ∃ l, l = q.1.bs.length := ⟨_, rfl⟩
          rw [← hlq] at f2 honeq hql
          have HLQ := Lib.hid hlq
          clear hp1 hpt hq hqm hqv hlq
          go_wp2_with fail
          go_roundw
          case rel => exact ⟨j + 1, B1 + lq, by go_num, by go_num, by omega, by omega, by rw [HSQ.out, ← HLQ.out, HY.out.1]; omega, HY.out.2.then bx_below⟩
          case measure => simp [intOf]; omega
        · obtain rfl : j = m := by omega
          have HSQ : Hid (bytesP ((x.ps.map (·.1)).take j) = bytesP (x.ps.map (·.1))) := Lib.hid (by rw [List.take_of_length_le (by rw [List.length_map, HMM.out]; exact Nat.le_refl _)])
          go_wp2_with fail
          go_roundw
          case rel => exact ⟨k + 1, B1, by go_num, rfl, by omega, by omega, by rw [HY.out.1, HSQ.out, HTS.out, HX.out.1], HY.out.2⟩
          case measure => simp [intOf]; omega
    · obtain rfl : k = n := by omega
      have k2 := below_cells HX.out.2 _ _ HK1.out
      have HBB : Hid (B0 = bytesT (L.map PkM.T)) := Lib.hid (by
        rw [HX.out.1, List.take_of_length_le (by rw [List.length_map, HN.out]; exact Nat.le_refl _)])
      go_wp2_with fail
      rw [HQ.out]
      exact ⟨by rw [List.length_map, ← HN.out, ← HBB.out]; rfl, HX.out.2⟩
theorem live_nil (w : World) : Calls Try.prog 53 #[.pointer none] w fun e w' => e = .returned (.tuple #[.int .i64 0, .int .i64 0]) ∧ w = w' := by
  go_enter Try.func53, Try.ntmps53
  go_wp2_with fail
  go_ret2
  exact ⟨rfl, rfl⟩
end Go.Proofs.Ytnckmaieghlpmaa
namespace Go.Proofs.Ytnckmaieghlpmaa
open Go.RowKit
set_option linter.unusedVariables false
set_option linter.unusedSimpArgs false
attribute [local go_sem ↓] fold_ld54 fold_st54 fold_ld90 fold_st90 fold_ld121 fold_st121 fold_ld124 fold_st124 Go.wp_at_zero Go.wp_at_succ
attribute [local go_sem] ld54_at st54_at ld90_at st90_pt ld121_at st121_nm ld124_at free_new1

theorem take_none {w : World} {M : Nat → Prop} {F : Nat} {many most : Int} {T : List PkT} {p : PartD} (hT : Tab w M F many most T) (hs : takeS many most T p = ⟨T, [], false, 8⟩) {e : Ending} {w' : World} (he : e = .returned (.tuple #[.slice none 0 0, .bool false, .int .u8 8])) (hb : Below w.heap.size w w') : TakeRet w M F many most T p e w' := by
  unfold TakeRet
  rw [hs]
  exact ⟨.slice none 0 0, M, he, own_nil _ _, hT.below hb, fun k hk => .inl hk, (fun k hk => by cases hk), .of_below hb⟩
set_option maxRecDepth 100000 in
set_option maxHeartbeats 2000000 in
theorem take_few (w : World) (M : Nat → Prop) (F : Nat) (many most : Int) (T : List PkT) (p : PartD) (v : Value) (hT : Tab w M F many most T) (hm : many < 1) :
    Calls Try.prog 51 #[.pointer (some ⟨F, 0, none⟩), .agg (partA p v)] w (TakeRet w M F many most T p) := by
  have HT := Lib.hid hT
  have hst : takeS many most T p = ⟨T, [], false, 8⟩ := by unfold takeS; rw [if_pos hm]
  have HST := Lib.hid hst
  obtain ⟨lv, L, hL, rfl⟩ := hT
  have c1 := hL.cells.1
  have hF := hL.sub F hL.inF
  have n1 := World.new_ne w ⟨F, 0, none⟩ c1
  obtain ⟨Q, hQ⟩ : ∃ Q, Q = TakeRet w M F many most (L.map PkM.T) p := ⟨_, rfl⟩
  rw [← hQ]
  have HQ := Lib.hid hQ
  clear hQ hL hst
  go_enter Try.func51, Try.ntmps51
  go_wp2_with fail
  go_ret3
  rw [HQ.out]
  exact take_none HT.out HST.out rfl (((Below.refl _ _).alloc (Nat.le_refl _) _).alloc (by simp) _)
set_option maxRecDepth 100000 in
set_option maxHeartbeats 2000000 in
theorem take_not (w : World) (M : Nat → Prop) (F : Nat) (many most : Int) (T : List PkT) (p : PartD) (v : Value) (hT : Tab w M F many most T) (hp : p.nm.ok) (hv : Bs w v p.bs) (hm : ¬ many < 1) (hmost : most ≤ 9223372036854775807) (hmay : mayB most p = false) :
    Calls Try.prog 51 #[.pointer (some ⟨F, 0, none⟩), .agg (partA p v)] w (TakeRet w M F many most T p) := by
  have HT := Lib.hid hT
  have hst : takeS many most T p = ⟨T, [], false, 8⟩ := by unfold takeS; rw [if_neg hm, if_pos hmay]
  have HST := Lib.hid hst
  obtain ⟨lv, L, hL, rfl⟩ := hT
  obtain ⟨c1, c2, _, _⟩ := hL.cells
  have hF := hL.sub F hL.inF
  have n1 := World.new_ne w ⟨F, 0, none⟩ c1
  have HV := Lib.hid hv
  have HM := Lib.hid (fun w' h => may_any w' F most p v hp (HV.out.below h) (below_cells h _ _ c2) hmost)
  have HMY := Lib.hid hmay
  have HB : Hid (B1 p v F w.heap.size (w.heap.size + 1) ((w.alloc (.cells #[.pointer (some ⟨F, 0, none⟩)] 85)).alloc (.cells (partA p v) 90))) := Lib.hid (b1_new w p v F hp)
  have h1 := HB.out.cp.has hp
  have h2 := HB.out.cp.rd hp
  obtain ⟨Q, hQ⟩ : ∃ Q, Q = TakeRet w M F many most (L.map PkM.T) p := ⟨_, rfl⟩
  rw [← hQ]
  have HQ := Lib.hid hQ
  clear hQ hL hst c2 hmay hp hv
  go_enter Try.func51, Try.ntmps51
  go_wp2_with fail
  refine (HM.out _ (((Below.refl _ _).alloc (Nat.le_refl _) _).alloc (by simp) _)).mono ?_
  rintro e w3 ⟨rfl, hb3⟩
  rw [HMY.out]
  have HB3 := Lib.hid hb3
  clear hb3
  go_wp2_with fail
  go_ret3
  rw [HQ.out]
  exact take_none HT.out HST.out rfl ((((Below.refl _ _).alloc (Nat.le_refl _) _).alloc (by simp) _ : Below w.heap.size w ((w.alloc (.cells #[.pointer (some ⟨F, 0, none⟩)] 85)).alloc (.cells (partA p v) 90))).trans (HB3.out.mono (by simp; omega)))
set_option maxRecDepth 100000 in
set_option maxHeartbeats 2000000 in
theorem take_nil (w : World) (p : PartD) (v : Value) :
    Calls Try.prog 51 #[.pointer none, .agg (partA p v)] w fun e w' => e = .returned (.tuple #[.slice none 0 0, .bool false, .int .u8 8]) ∧ Below w.heap.size w w' := by
  go_enter Try.func51, Try.ntmps51
  go_wp2_with fail
  go_ret3
  exact ⟨rfl, ((Below.refl _ _).alloc (Nat.le_refl _) _).alloc (by simp) _⟩

/-- **Take** -/
theorem take_any (w : World) (M : Nat → Prop) (F : Nat) (many most : Int) (T : List PkT) (p : PartD) (v : Value) (hT : Tab w M F many most T) (hp : p.nm.fit) (hv : Bs w v p.bs) (hvM : p.bs ≠ [] → ∀ k, v.ownBlock = some k → ¬ M k)
    (hmost : most ≤ 9223372036854775807) (hO : OkT many most T) (hsm : SmT T) (hpl : p.bs.length ≤ 1048576) :
    Calls Try.prog 51 #[.pointer (some ⟨F, 0, none⟩), .agg (partA p v)] w (TakeRet w M F many most T p) := by
  by_cases hm : many < 1
  · exact take_few w M F many most T p v hT hm
  · rcases hmay : mayB most p with _ | _
    · exact take_not w M F many most T p v hT hp.1 hv hm hmost hmay
    · obtain ⟨lv, L, hL, rfl⟩ := hT
      exact take_in w M F many most lv L p v hL hp hv (hvM (fun e => by have := (may_spec hmay).1; rw [e] at this; simp at this)) hm hmost hmay hO hsm hpl
end Go.Proofs.Ytnckmaieghlpmaa
namespace Go.Proofs.Ytnckmaieghlpmaa
open Go.RowKit
set_option linter.unusedVariables false

/-- sizes of a table -/
def Sz (n : Nat) (T : List PkT) : Prop := T.length ≤ n ∧ ∀ k ∈ T, k.2.length ≤ n ∧ ∀ q ∈ k.2, q.bs.length ≤ 1048576
theorem Sz.sm {n : Nat} {T : List PkT} (h : Sz n T) (hn : n ≤ 1048576) : SmT T := ⟨Nat.le_trans h.1 hn, fun k hk => ⟨Nat.le_trans (h.2 k hk).1 hn, (h.2 k hk).2⟩⟩
theorem Sz.sub {n : Nat} {T U : List PkT} (h : Sz n T) (hl : U.length ≤ T.length) (hs : ∀ k ∈ U, k ∈ T) : Sz n U := ⟨Nat.le_trans hl h.1, fun k hk => h.2 k (hs k hk)⟩
theorem Sz.up {n m : Nat} {T : List PkT} (h : Sz n T) (hn : n ≤ m) : Sz m T := ⟨Nat.le_trans h.1 hn, fun k hk => ⟨Nat.le_trans (h.2 k hk).1 hn, (h.2 k hk).2⟩⟩
theorem Sz.erase {n : Nat} {T : List PkT} (h : Sz n T) (i : Nat) : Sz n (T.eraseIdx i) := h.sub (List.length_eraseIdx_le T i) (fun k hk => List.mem_of_mem_eraseIdx hk)
theorem stepIn_sz {n : Nat} {T : List PkT} {i : Nat} {m : NameD} {ps : List PartD} {p : PartD} (h1 : T.length ≤ n + 1) (h2 : ∀ k ∈ T, k.2.length ≤ n ∧ ∀ q ∈ k.2, q.bs.length ≤ 1048576) (hps : ps.length ≤ n ∧ ∀ q ∈ ps, q.bs.length ≤ 1048576) (hp : p.bs.length ≤ 1048576) : Sz (n + 1) (stepIn T i m ps p).T := by
  have hT : Sz (n + 1) T := ⟨h1, fun k hk => ⟨by have := (h2 k hk).1; omega, (h2 k hk).2⟩⟩
  unfold stepIn
  split
  · exact hT
  · split
    · exact hT.erase i
    · split
      · exact hT.erase i
      · refine ⟨by simpa using h1, fun k hk => ?_⟩
        rcases List.mem_or_eq_of_mem_set hk with hk | rfl
        · exact hT.2 k hk
        · refine ⟨by rw [insPt_length]; omega, fun q hq => ?_⟩
          rcases insPt_mem.1 hq with rfl | hq
          · exact hp
          · exact hps.2 q hq
theorem takeS_sz {n : Nat} {many most : Int} {T : List PkT} {p : PartD} (h : Sz n T) (hp : p.bs.length ≤ 1048576) : Sz (n + 1) (takeS many most T p).T := by
  unfold takeS
  split
  · exact h.up (by omega)
  · split
    · exact h.up (by omega)
    · split
      · rename_i i hi
        obtain ⟨ps, h1, h2⟩ := find_some hi
        rw [h2]
        exact stepIn_sz (by have := h.1; omega) h.2 (h.2 _ (List.mem_of_getElem? h1)) hp
      · have hr : (roomed many T).length ≤ n := Nat.le_trans roomed_len h.1
        refine stepIn_sz (by rw [List.length_append]; simp; omega) (fun k hk => ?_) ⟨by simp, fun q hq => by cases hq⟩ hp
        rcases List.mem_append.1 hk with hk | hk
        · exact h.2 k (roomed_sub k hk)
        · simp at hk; subst hk; exact ⟨by simp, fun q hq => by cases hq⟩

structure TbS (w : World) (M : Nat → Prop) (F : Nat) (many most : Int) (T : List PkT) (n : Nat) : Prop where
  tab : Tab w M F many most T
  ok : OkT many most T
  sz : Sz n T
theorem TbS.keep {w w' : World} {M : Nat → Prop} {F : Nat} {many most : Int} {T : List PkT} {n : Nat} (h : TbS w M F many most T n) (hb : ∀ k, M k → w'.heap[k]? = w.heap[k]?) (hs : w.heap.size ≤ w'.heap.size) : TbS w' M F many most T n := ⟨h.tab.keep hb hs, h.ok, h.sz⟩
theorem TbS.below {w w' : World} {M : Nat → Prop} {F : Nat} {many most : Int} {T : List PkT} {n : Nat} (h : TbS w M F many most T n) (hb : Below w.heap.size w w') : TbS w' M F many most T n := ⟨h.tab.below hb, h.ok, h.sz⟩
theorem TbS.only {w w' : World} {M N : Nat → Prop} {F : Nat} {many most : Int} {T : List PkT} {n : Nat} (h : TbS w M F many most T n) (hb : Only N w w') (hd : ∀ k, M k → N k → False) : TbS w' M F many most T n := ⟨h.tab.only hb hd, h.ok, h.sz⟩
theorem TbS.sub {w : World} {M : Nat → Prop} {F : Nat} {many most : Int} {T : List PkT} {n : Nat} (h : TbS w M F many most T n) : ∀ k, M k → k < w.heap.size := h.tab.sub
theorem tbs_new (w : World) (many most : Int) (n : Nat) : TbS (w.alloc (.cells #[.int .i64 many, .int .i64 most, .slice none 0 0] 115)) (fun k => k = w.heap.size) w.heap.size many most [] n :=
  ⟨tab_new w many most, ⟨(fun k hk => by cases hk), by simp, by simp; omega⟩, by simp [Sz]⟩

def TakeR (w : World) (M : Nat → Prop) (F : Nat) (many most : Int) (n : Nat) (R : Res) (e : Ending) (w' : World) : Prop :=
  ∃ u M', e = .returned (.tuple #[u, .bool R.is, .int .u8 (R.drop : Int)]) ∧ Own w' w.heap.size u R.bs ∧ TbS w' M' F many most R.T (n + 1) ∧ (∀ k, M' k → M k ∨ w.heap.size ≤ k) ∧ (∀ k, u.ownBlock = some k → ¬ M' k) ∧ Only M w w'
theorem take_tb (w : World) (M : Nat → Prop) (F : Nat) (many most : Int) (T : List PkT) (n : Nat) (p : PartD) (v : Value) (hT : TbS w M F many most T n) (hn : n ≤ 1048576) (hp : p.nm.fit) (hv : Bs w v p.bs) (hvM : p.bs ≠ [] → ∀ k, v.ownBlock = some k → ¬ M k)
    (hmost : most ≤ 9223372036854775807) (hpl : p.bs.length ≤ 1048576) :
    Calls Try.prog 51 #[.pointer (some ⟨F, 0, none⟩), .agg (partA p v)] w (TakeR w M F many most n (takeS many most T p)) := by
  refine (take_any w M F many most T p v hT.tab hp hv hvM hmost hT.ok (hT.sz.sm hn) hpl).mono ?_
  rintro e w' ⟨u, M', he, h1, h2, h3, h4, h5⟩
  exact ⟨u, M', he, h1, ⟨h2, takeS_ok hT.ok hp, takeS_sz hT.sz hpl⟩, h3, h4, h5⟩
theorem live_tb (w : World) (M : Nat → Prop) (F : Nat) (many most : Int) (T : List PkT) (n : Nat) (hT : TbS w M F many most T n) (hn : n ≤ 1048576) : Calls Try.prog 53 #[.pointer (some ⟨F, 0, none⟩)] w (LiveRet w T) := by
  refine live_any w M F many most T hT.tab (fun k hk => ?_) (hT.sz.sm hn)
  have h := (hT.ok.ok k hk).1
  exact ⟨h.fit.1, fun q hq => by rw [h.nm q hq]; exact h.fit.1⟩
/-- a table of the call's own; what was there is as it was -/
structure KS (w0 : World) (B : Nat) (w : World) (M : Nat → Prop) (F : Nat) (many most : Int) (T : List PkT) (n : Nat) : Prop where
  tb : TbS w M F many most T n
  old : ∀ k, M k → B ≤ k
  bel : Below B w0 w
  sz : B ≤ w.heap.size
theorem KS.below {w0 : World} {B : Nat} {w w' : World} {M : Nat → Prop} {F : Nat} {many most : Int} {T : List PkT} {n : Nat} (h : KS w0 B w M F many most T n) (hb : Below w.heap.size w w') : KS w0 B w' M F many most T n :=
  ⟨h.tb.below hb, h.old, h.bel.trans (hb.mono h.sz), Nat.le_trans h.sz hb.size⟩
theorem KS.alloc {w0 : World} {B : Nat} {w : World} {M : Nat → Prop} {F : Nat} {many most : Int} {T : List PkT} {n : Nat} (h : KS w0 B w M F many most T n) (o : Obj) : KS w0 B (w.alloc o) M F many most T n := h.below (below_alloc w o)
theorem ks_new (w0 w : World) (B : Nat) (many most : Int) (n : Nat) (hb : Below B w0 w) (hs : B ≤ w.heap.size) : KS w0 B (w.alloc (.cells #[.int .i64 many, .int .i64 most, .slice none 0 0] 115)) (fun k => k = w.heap.size) w.heap.size many most [] n :=
  ⟨tbs_new w many most n, (fun k hk => by rw [hk]; exact hs), hb.trans ((below_alloc w _).mono hs), by simp; omega⟩
def KsR (w0 : World) (B : Nat) (w : World) (M : Nat → Prop) (F : Nat) (many most : Int) (n : Nat) (T' : List PkT) (bs : List UInt8) (is : Bool) (d : Nat) (e : Ending) (w' : World) : Prop :=
  ∃ u M', e = .returned (.tuple #[u, .bool is, .int .u8 (d : Int)]) ∧ Own w' w.heap.size u bs ∧ KS w0 B w' M' F many most T' (n + 1) ∧ (∀ k, u.ownBlock = some k → ¬ M' k) ∧ Only M w w' ∧ (∀ k, M' k → M k ∨ w.heap.size ≤ k)
theorem ks_take {w0 : World} {B : Nat} {w : World} {M : Nat → Prop} {F : Nat} {many most : Int} {T : List PkT} {n : Nat} (h : KS w0 B w M F many most T n) {p : PartD} {v : Value} {T' : List PkT} {bs : List UInt8} {is : Bool} {d : Nat} (hR : takeS many most T p = ⟨T', bs, is, d⟩)
    (hn : n ≤ 1048576) (hp : p.nm.fit) (hv : Bs w v p.bs) (hvM : p.bs ≠ [] → ∀ k, v.ownBlock = some k → ¬ M k) (hmost : most ≤ 9223372036854775807) (hpl : p.bs.length ≤ 1048576) :
    Calls Try.prog 51 #[.pointer (some ⟨F, 0, none⟩), .agg (partA p v)] w (KsR w0 B w M F many most n T' bs is d) := by
  refine (take_tb w M F many most T n p v h.tb hn hp hv hvM hmost hpl).mono ?_
  rintro e w' ⟨u, M', he, h1, h2, h3, h4, h5⟩
  rw [hR] at he h1 h2
  refine ⟨u, M', he, h1, ⟨h2, fun k hk => (h3 k hk).elim (h.old k) (fun h6 => Nat.le_trans h.sz h6), h.bel.trans (h5.below h.sz h.old), Nat.le_trans h.sz h5.size⟩, h4, h5, h3⟩
theorem ks_live {w0 : World} {B : Nat} {w : World} {M : Nat → Prop} {F : Nat} {many most : Int} {T : List PkT} {n : Nat} (h : KS w0 B w M F many most T n) (hn : n ≤ 1048576) : Calls Try.prog 53 #[.pointer (some ⟨F, 0, none⟩)] w (LiveRet w T) :=
  live_tb w M F many most T n h.tb hn
/-- a slice in a block of its own, new, is none of the table's -/
theorem KS.new {w0 : World} {B : Nat} {w : World} {M : Nat → Prop} {F : Nat} {many most : Int} {T : List PkT} {n : Nat} (h : KS w0 B w M F many most T n) (m c : Nat) : ∀ k, (Value.slice (some ⟨w.heap.size, 0, none⟩) m c).ownBlock = some k → ¬ M k := fun k hk hm => by
  cases hk
  exact Nat.lt_irrefl _ (h.tb.sub _ hm)
/-- bytes that lie there lie in a block that is there -/
theorem bs_lt {w : World} {v : Value} {bs : List UInt8} (h : Bs w v bs) (hne : bs ≠ []) : ∀ k, v.ownBlock = some k → k < w.heap.size := fun k hk => by
  obtain ⟨a, c, rfl, _, _, hat⟩ := h
  rcases hat with h | ⟨b, o, rfl, h⟩
  · exact absurd h hne
  · cases hk
    cases bs with
    | nil => exact absurd rfl hne
    | cons x l => exact World.block_lt_of_cell? w ⟨b, o + 0, none⟩ (h 0 x rfl)
/-- bytes of old memory are none of the table's -/
theorem KS.far {w0 : World} {B : Nat} {w : World} {M : Nat → Prop} {F : Nat} {many most : Int} {T : List PkT} {n : Nat} (h : KS w0 B w M F many most T n) {v : Value} {bs : List UInt8} (hv : Bs w0 v bs) (hB : w0.heap.size ≤ B) : bs ≠ [] → ∀ k, v.ownBlock = some k → ¬ M k := fun hne k hk hm => by
  have := bs_lt hv hne k hk
  have := h.old k hm
  omega
/-- .. and lie there as they were -/
theorem KS.bytes {w0 : World} {B : Nat} {w : World} {M : Nat → Prop} {F : Nat} {many most : Int} {T : List PkT} {n : Nat} (h : KS w0 B w M F many most T n) {v : Value} {bs : List UInt8} (hv : Bs w0 v bs) (hB : w0.heap.size ≤ B) : Bs w v bs := hv.same fun p u hp => by
  have hlt := World.block_lt_of_cell? w0 p hp
  rw [h.bel.cell (Nat.lt_of_lt_of_le hlt hB)]; exact hp
end Go.Proofs.Ytnckmaieghlpmaa
