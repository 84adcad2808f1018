/-
  The reference's without.
-/
import Derived.Test.YtnckmaieghlpmaaRf3
namespace Go.Proofs.Ytnckmaieghlpmaa
open Go.RowKit
set_option linter.unusedVariables false
set_option linter.unusedSimpArgs false
attribute [local go_sem ↓] Go.wp_at_zero Go.wp_at_succ

theorem erase_take_hit {α : Type} (xs : List α) (i : Nat) : (xs.take (i + 1)).eraseIdx i = (xs.take i).eraseIdx i := by
  rw [List.eraseIdx_eq_take_drop_succ, List.eraseIdx_eq_take_drop_succ, List.take_take, List.take_take, List.drop_eq_nil_of_le (by rw [List.length_take]; omega), List.drop_eq_nil_of_le (by rw [List.length_take]; omega), Nat.min_self, Nat.min_eq_left (by omega)]
theorem erase_take_miss {α : Type} (xs : List α) (i k : Nat) (u : α) (h : xs[k]? = some u) (hne : k ≠ i) : (xs.take (k + 1)).eraseIdx i = (xs.take k).eraseIdx i ++ [u] := by
  have hl := (List.getElem?_eq_some_iff.1 h).1
  rw [List.take_add_one, h]
  simp only [Option.toList_some]
  rcases Nat.lt_or_ge i k with hi | hi
  · rw [List.eraseIdx_append_of_lt_length (by rw [List.length_take]; omega)]
  · rw [List.eraseIdx_append_of_length_le (by rw [List.length_take]; omega), List.eraseIdx_of_length_le (l := xs.take k) (by rw [List.length_take]; omega)]
    rw [List.eraseIdx_of_length_le (by rw [List.length_take]; simp; omega)]
set_option maxRecDepth 100000 in
set_option maxHeartbeats 4000000 in
theorem without_any (w : World) (lv : Value) (n : Nat) (xs : List Value) (i : Nat) (hown : w.ownsRow 0 137 1 lv n xs) (hxs : ∀ u ∈ xs, ∃ a m c, u = .slice a m c) (hn : n ≤ 1048577) :
    Calls Try.prog 82 #[lv, .int .i64 i] w fun e w' => (∃ lv', e = .returned lv' ∧ w'.ownsRow w.heap.size 137 1 lv' (xs.eraseIdx i).length (xs.eraseIdx i)) ∧ Below w.heap.size w w' := by
  obtain ⟨a, c, rfl, hnc, hc⟩ := ownsRow_shape hown
  have hlen : xs.length = n := by have := hown.1; omega
  have HOWN := Lib.hid hown
  have HXS := Lib.hid hxs
  have HLEN := Lib.hid hlen
  obtain ⟨i137, hi137, hz137, hsize, hby⟩ := info_parts info137m
  clear hown hxs hlen
  go_enter Try.func82, Try.ntmps82
  go_wp2_with fail
  go_loopw [5, 6] (fun s5 s6 wr => ∃ (k m yc : Nat) (ya : Option Addr), s6 = .int .i64 k ∧ s5 = .slice ya m yc ∧ k ≤ n ∧ m ≤ k ∧ Hid (∃ Y : List Value, Y = (xs.take k).eraseIdx i ∧ wr.ownsRow w.heap.size 137 1 (.slice ya m yc) m Y ∧ Below w.heap.size w wr)) (fun s5 s6 _ => n - (intOf s6).toNat)
  case atStart => exact ⟨0, 0, 0, none, rfl, rfl, Nat.zero_le _, Nat.le_refl _, [], by simp, World.ownsRow_nil _ _ _ _, Below.refl _ _⟩
  case round =>
    obtain ⟨k, m, yc, ya, rfl, rfl, hk, hmk, HX⟩ := hrel
    obtain ⟨Y, hY1, hY2, hY3⟩ := HX.out
    have H1 := Lib.hid hY1
    have H2 := Lib.hid hY2
    have H3 := Lib.hid hY3
    clear HX hY1 hY2 hY3
    by_cases hlt : k < n
    · obtain ⟨u, hu⟩ : ∃ u, xs[k]? = some u := ⟨xs[k]'(by rw [HLEN.out]; exact hlt), by rw [List.getElem?_eq_getElem]⟩
      obtain ⟨au, mu, cu, rfl⟩ := HXS.out u (List.mem_of_getElem? hu)
      by_cases hki : k = i
      · subst hki
        clear hu
        go_wp2_with fail
        go_roundw
        case rel => exact ⟨k + 1, m, yc, ya, by go_num, rfl, by omega, by omega, Y, by rw [H1.out, erase_take_hit], H2.out, H3.out⟩
        case measure => simp [intOf]; omega
      · have hki' : ((k : Int) != (i : Int)) = true := by simp; omega
        obtain ⟨g, c', e, _, _⟩ := own_some HOWN.out (by omega)
        cases e
        have q1 := below_cells H3.out _ _ (own_range HOWN.out rfl hu)
        have HU := Lib.hid hu
        have HKI := Lib.hid hki
        have HRA := Lib.hid (H2.out.alloc (.cells #[.slice au mu cu] 137))
        have HNW : Hid (∀ j v, [Value.slice au mu cu][j]? = some v → (wr.alloc (.cells #[.slice au mu cu] 137)).cell? ((⟨wr.heap.size, 0, none⟩ : Addr).add j) = some v) := Lib.hid (fun j v hv => by
          rw [Addr.add_lit, World.cell?_alloc_mark, Nat.zero_add, ← Array.getElem?_toList]; exact hv)
        clear hu hki
        go_wp2_with (at_builtin; go_loud (refine wpList_append_own_at _ rfl (.tmp 16) (.tmp 21) 116 rfl w.heap.size 137 i137 (.slice none 0 0) 1 24 Try.underlying116 hi137 hz137 hsize hby rfl (by omega) _ m Y rfl HRA.out ⟨wr.heap.size, 0, none⟩ 1 1 [.slice au mu cu] rfl rfl HNW.out (by simp; rfl) (by unfold maxLen; omega) (by omega) (by have := H3.out.size; simp; omega) ?_; intro v' w' h2 h3 h4 h5; obtain ⟨a2, c2, rfl, _, _⟩ := ownsRow_shape h2; have HO2 := Lib.hid h2; have HGR := Lib.hid h3; clear h2 h3 h4 h5))
        go_roundw
        case rel => exact ⟨k + 1, m + 1, c2, a2, by go_num, rfl, by omega, by omega, Y ++ [.slice au mu cu], by rw [H1.out, erase_take_miss xs i k _ HU.out HKI.out], HO2.out, (H3.out.alloc H3.out.size _).grown HGR.out (by have := H3.out.size; simp; omega) (fun q hq => (World.ownsRow.lt HRA.out q hq).1)⟩
        case measure => simp [intOf]; omega
    · obtain rfl : k = n := by omega
      have HY : Hid (Y = xs.eraseIdx i) := Lib.hid (by rw [H1.out, List.take_of_length_le (by rw [HLEN.out]; exact Nat.le_refl _)])
      go_wp2_with fail
      go_ret
      refine ⟨⟨_, rfl, ?_⟩, H3.out⟩
      have h := H2.out
      rw [HY.out] at h
      have hl : m = (xs.eraseIdx i).length := by have := h.1; omega
      rw [← hl]
      exact h
end Go.Proofs.Ytnckmaieghlpmaa
