/-
  slices.Delete of one packet.
-/
import Derived.Test.YtnckmaieghlpmaaZ3
namespace Go.Proofs.Ytnckmaieghlpmaa
open Go.RowKit
set_option linter.unusedVariables false
theorem info124m : (Try.prog.info? 124).map (fun i => (i.size, i.bytes, i.zero.map (·.cells.size))) = some (37, 64, some 37) := by kernel_rfl
theorem info124z : ∃ i z, Try.prog.info? 124 = some i ∧ i.zero = some z ∧ i.size = 37 ∧ i.bytes = 64 ∧ z.cells.size = 37 := info_take info124m
theorem zero124 : (Try.prog.info? 124).bind (fun i => i.zero.map (·.cells.all (·.oneCell'))) = some true := by kernel_rfl

theorem wpList_clear_run {P : Program} (w : World) {ops : Array Oper} {rest : List Oper} {o : Oper} {a : Act} {Q : Exit → Act → World → Prop} (hgd : o.guard = none) (x : Operand) (t : TypeId)
    (ho : o.op = .call { callee := .builtin .clear, args := #[x], argTypes := #[t] }) (u : Value) (hx : a.eval x = u) {w' : World}
    (hr : (Builtin.clear_ #[t] o.type #[u]).run P w = .ok (.tuple #[]) w') (h : wpList P ops Q rest (a.put o.dst (.tuple #[])) w') : wpList P ops Q (o :: rest) a w := by
  refine wpList_plain hgd fun K hK => ?_
  unfold Oper.wp execOp
  simp only [ho, resolve, invoke, builtin, Sem.run_bind, Sem.run_pure, Result.andThen_ok, List.map_toArray, List.map_cons, List.map_nil, hx, hr]
  exact hK _ _ h
theorem step_append_runI {P : Program} {ops : Array Oper} {o : Oper} {a : Act} {w : World} {K : Act → World → Prop} {Q : Exit → Act → World → Prop} {E : Prop}
    (hg : o.guard = none) (d x : Operand) (dT sT : TypeId) (hop : o.op = Op.call { callee := Callee.builtin Builtin.append, args := #[d, x], argTypes := #[dT, sT] })
    (v u : Value) (hd : a.eval d = v) (hx : a.eval x = u) {v' : Value} {w' : World} (hr : (Builtin.append_ #[dT, sT] o.type #[v, u]).run P w = .ok v' w') (hK : K (a.put o.dst v') w') :
    if Region.wanted o (yielded ops a.tmps) = true then Oper.wp P o a w K Q else E := by
  have hw : Region.wanted o (yielded ops a.tmps) = true := by simp [Region.wanted, hg]
  rw [if_pos hw]
  unfold Oper.wp execOp
  simp only [hop, resolve, invoke, builtin, Sem.run_bind, Sem.run_pure, Result.andThen_ok, List.map_toArray, List.map_cons, List.map_nil, hd, hx, hr]
  exact hK

/-- the rows of a deletion -/
theorem del_list {α : Type} (cur Z : List α) (a b s : Nat) (h1 : a + s ≤ b) (h2 : Z.length = s) (h3 : b ≤ cur.length) :
    let news := (cur.take b).drop (a + s)
    let c1 := cur.take a ++ news ++ cur.drop (a + news.length)
    (c1.take (b - s) ++ Z ++ c1.drop (b - s + Z.length)).take (b - s) = (cur.take b).take a ++ (cur.take b).drop (a + s) ∧ (c1.take (b - s) ++ Z ++ c1.drop (b - s + Z.length)).length = cur.length ∧ c1.length = cur.length := by
  intro news c1
  have hn : news.length = b - (a + s) := by simp only [news]; rw [List.length_drop, List.length_take]; omega
  have hka : (cur.take a).length = a := by rw [List.length_take]; omega
  have hl : c1.length = cur.length := by simp only [c1]; rw [List.length_append, List.length_append, hka, hn, List.length_drop]; omega
  have t1 : c1.take (b - s) = cur.take a ++ news := by
    simp only [c1]
    have := List.take_left (l₁ := cur.take a ++ news) (l₂ := cur.drop (a + news.length))
    rw [List.length_append, hka, hn, show a + (b - (a + s)) = b - s by omega] at this
    rw [hn, show a + (b - (a + s)) = b - s by omega]; exact this
  have hk : (cur.take a ++ news).length = b - s := by rw [List.length_append, hka, hn]; omega
  refine ⟨?_, ?_, hl⟩
  · rw [t1, List.append_assoc]
    have := List.take_left (l₁ := cur.take a ++ news) (l₂ := Z ++ c1.drop (b - s + Z.length))
    rw [hk] at this
    rw [this, List.take_take, Nat.min_eq_left (by omega)]
  · rw [t1, List.length_append, List.length_append, hk, h2, List.length_drop, hl]; omega

set_option maxRecDepth 100000 in
set_option maxHeartbeats 4000000 in
theorem del_at (w : World) (n i c g : Nat) (cur : Array Value) (hg : w.heap[g]? = some (.cells cur 124 (0, 0))) (hcs : cur.size = c * 37) (hi : i < n) (hnc : n ≤ c) (hc : c ≤ 9223372036854775807) (h1c : ∀ u ∈ cur.toList.take (n * 37), u.oneCell' = true) :
    Calls Try.prog 69 #[.slice (some ⟨g, 0, none⟩) n c, .int .i64 i, .int .i64 ((i : Int) + 1)] w fun e w' =>
      e = .returned (.slice (some ⟨g, 0, none⟩) (n - 1) c) ∧ ∃ (Z c1 : List Value), Z.length = 37 ∧ c1 = cur.toList.take (i * 37) ++ (cur.toList.take (n * 37)).drop (i * 37 + 37) ++ cur.toList.drop (i * 37 + ((cur.toList.take (n * 37)).drop (i * 37 + 37)).length) ∧
        w' = (w.drew.setRow g c1.toArray).setRow g (c1.take ((n - 1) * 37) ++ (Z ++ c1.drop ((n - 1) * 37 + Z.length))).toArray := by
  obtain ⟨i124, z124, hi124, hz, hsize, hby, hzs⟩ := info124z
  have hz1 : ∀ u ∈ (Builtin.zeroCells z124.cells 1).toList, u.oneCell' = true := fun u hu => by
    have := zero124
    rw [hi124] at this
    simp only [Option.bind_some, hz, Option.map_some, Option.some.injEq] at this
    simp only [Builtin.zeroCells] at hu
    refine Array.all_eq_true_iff_forall_mem.1 this u ?_
    simp at hu
    obtain ⟨a, ha, rfl⟩ := hu
    rw [Nat.mod_eq_of_lt ha, getElem!_pos z124.cells a ha]
    exact Array.getElem_mem ha
  have hzl : (Builtin.zeroCells z124.cells 1).toList.length = 37 := by rw [Array.length_toList, size_zeroCells, hzs]
  obtain ⟨Z, hZ⟩ : ∃ Z, Z = (Builtin.zeroCells z124.cells 1).toList := ⟨_, rfl⟩
  obtain ⟨news, hnews⟩ : ∃ news, news = (cur.toList.take (n * 37)).drop (i * 37 + 37) := ⟨_, rfl⟩
  have hmul : (i + 1) * 37 = i * 37 + 37 := Nat.succ_mul i 37
  have hle : (i + 1) * 37 ≤ n * 37 := Nat.mul_le_mul_right 37 hi
  have hnl : n * 37 ≤ c * 37 := Nat.mul_le_mul_right 37 hnc
  have hml : news.length = (n - (i + 1)) * 37 := by rw [hnews, List.length_drop, List.length_take, Array.length_toList, hcs, Nat.min_eq_left hnl, Nat.sub_mul, hmul]
  have hmc : ∀ j v, news[j]? = some v → cur[i * 37 + 37 + j]? = some v := fun j v hj => by
    rw [hnews, List.getElem?_drop, List.getElem?_take] at hj
    split at hj
    · simpa using hj
    · cases hj
  have hm1 : ∀ v ∈ news, v.oneCell' = true := fun v hv => h1c v (by rw [hnews] at hv; exact List.mem_of_mem_drop hv)
  obtain ⟨c1, hc1⟩ : ∃ c1 : List Value, c1 = cur.toList.take (i * 37) ++ news ++ cur.toList.drop (i * 37 + news.length) := ⟨_, rfl⟩
  have hfit : i * 37 + news.length ≤ cur.size := by rw [hml, hcs, Nat.sub_mul, hmul]; omega
  have hc1l : c1.length = c * 37 := by
    rw [hc1]; simp only [List.length_append, List.length_take, List.length_drop, Array.length_toList]; omega
  have hsum : i + (n - (i + 1)) = n - 1 := by omega
  have happ : ∀ ty (ad : Addr) k, (ad = ⟨g, (i + 1) * 37, none⟩ ∨ n = i + 1) → (Builtin.append_ #[113, 113] ty #[.slice (some ⟨g, 0, none⟩) i c, .slice (some ad) (n - (i + 1)) k]).run Try.prog w.drew = .ok (.slice (some ⟨g, 0, none⟩) (n - 1) c) (w.drew.setRow g c1.toArray) := fun ty ad k had => by
    have := run_append_room (P := Try.prog) w.drew 113 ty 124 i124 Try.underlying113 hi124 g i c cur hg ad (n - (i + 1)) k news (by rw [hml, hsize]) (fun j u hu => by
      rcases had with rfl | h
      · rw [Addr.add_lit, World.cell?_drew, hmul]; simp [World.cell?, hg]; exact hmc j u hu
      · have := (List.getElem?_eq_some_iff.1 hu).1
        rw [hml, h] at this; simp at this) hm1 (by omega) (by rw [hsize]; exact hfit)
    rw [this, hsize, hsum, hc1]
  have hclr : ∀ (W : World), W.heap = (w.drew.setRow g c1.toArray).heap → ∀ ty k, (Builtin.clear_ #[113] ty #[.slice (some ⟨g, (n - 1) * 37, none⟩) 1 k]).run Try.prog W = .ok (.tuple #[]) (W.setRow g (c1.take ((n - 1) * 37) ++ (Z ++ c1.drop ((n - 1) * 37 + Z.length))).toArray) := fun W hW ty k => by
    have hgW : W.heap[g]? = some (.cells c1.toArray 124 (0, 0)) := by rw [hW]; exact setRow_heap w.drew g cur _ 124 _ hg
    have hst := run_storeCells_at Try.prog g ((n - 1) * 37) 124 Z 0 c1.toArray W hgW (by rw [List.size_toArray, hc1l, hZ, hzl]; have : (n - 1 + 1) * 37 ≤ c * 37 := Nat.mul_le_mul_right 37 (by omega); rw [Nat.succ_mul] at this; omega) (by rw [hZ]; exact hz1)
    simp only [Nat.add_zero] at hst
    simp [Builtin.clear_, run_underlying Try.underlying113, zeroValue, typeInfo, hi124, hz, ← hZ, hst]
  have hclr' := hclr (w.drew.setRow g c1.toArray) rfl
  have HSELF : Hid (n = i + 1 → w.drew.setRow g c1.toArray = w.drew) := Lib.hid (fun h => by
    have h0 : news = [] := List.eq_nil_of_length_eq_zero (by rw [hml, h]; simp)
    have : c1.toArray = cur := by rw [hc1, h0]; simp
    rw [this]
    exact setRow_self w.drew g cur 124 (0, 0) hg)
  have hclrA : ∀ ty k, n = i + 1 → (Builtin.clear_ #[113] ty #[.slice (some ⟨g, i * 37, none⟩) 1 k]).run Try.prog w.drew = .ok (.tuple #[]) (w.drew.setRow g (c1.take ((n - 1) * 37) ++ (Z ++ c1.drop ((n - 1) * 37 + Z.length))).toArray) := fun ty k h => by
    have := hclr w.drew (by rw [HSELF.out h]) ty k
    rwa [show (n - 1) * 37 = i * 37 by rw [h]; simp] at this ⊢
  have HFIN := Lib.hid (And.intro (show Z.length = 37 by rw [hZ, hzl]) (And.intro hc1 hnews))
  have hij : ¬ ((i : Int) = (i : Int) + 1) := by omega
  have hb1 : (i : Int) + 1 ≤ (n : Int) := by omega
  have hb2 : (0 : Int) ≤ (i : Int) + 1 := by omega
  have hb3 : (i : Int) ≤ (i : Int) + 1 := by omega
  have htn : ((i : Int) + 1).toNat = i + 1 := by omega
  have hic : i ≤ c := by omega
  have hin : i ≤ n := by omega
  have hci : ¬ (c = i) := by omega
  have hcn : ¬ (c = n - 1) := by omega
  have hn1 : n - (n - 1) = 1 := by omega
  have hn2 : n - 1 ≤ n := by omega
  clear hclr hm1 hmc hg h1c hfit hml hcs hc1 hc1l hnews hz1 hzl hZ hmul hle hnl hsum
  have mixed : Try.prog.follows Departure.mixedOrders = true := by kernel_rfl
  have hwn : IntKind.i64.wrap ((n : Int) - 1) = ((n - 1 : Nat) : Int) := by rw [IntKind.wrap_i64]; omega
  by_cases hcc : c = i + 1
  · have hni : n = i + 1 := by omega
    have hself := HSELF.out hni
    have HS := Lib.hid hself
    have hclrB := fun ty k => hclrA ty k hni
    clear happ hclrA hclr' hself
    subst hni
    subst hcc
    simp only [Nat.add_sub_cancel] at hclrB
    have hw1 : IntKind.i64.wrap ((i : Int) + 1) = (i : Int) + 1 := by rw [IntKind.wrap_i64]; omega
    have hii : ¬ (i + 1 = i) := by omega
    clear hcn hn1 hn2 hwn hci
    go_enter Try.func69, Try.ntmps69
    go_wp2_with fail
    go_region
    go_wp2_with (refine wpList_clear_run _ rfl (.tmp 31) 113 rfl _ rfl (hclrB _ _) ?_)
    go_ret
    refine ⟨rfl, Z, c1, HFIN.out.1, by rw [HFIN.out.2.1, HFIN.out.2.2], ?_⟩
    rw [HS.out, Nat.add_sub_cancel]
  · have happ' := fun ty k => happ ty ⟨g, (i + 1) * 37, none⟩ k (Or.inl rfl)
    clear happ hclrA
    go_enter Try.func69, Try.ntmps69
    go_wp2_with fail
    go_region_law_o (refine step_append_runI rfl (.tmp 22) (.tmp 25) 113 113 rfl _ _ (by first | rfl | simp [Act.eval, Act.put]) (by first | rfl | simp [Act.eval, Act.put]) (happ' _ _) ?_)
    go_wp2_with (refine wpList_clear_run _ rfl (.tmp 31) 113 rfl _ rfl (hclr' _ _) ?_)
    go_ret
    exact ⟨rfl, Z, c1, HFIN.out.1, by rw [HFIN.out.2.1, HFIN.out.2.2], rfl⟩
end Go.Proofs.Ytnckmaieghlpmaa
