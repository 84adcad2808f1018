/-
  append of one row of parts to another.
-/
import Derived.Test.YtnckmaieghlpmaaPcut
namespace Go.Proofs.Ytnckmaieghlpmaa
open Go.RowKit
set_option linter.unusedVariables false

theorem app_rows (w : World) (b1 b2 k1 k2 : Nat) (v1 v2 : Value) (L1 L2 : List (PartD × Value)) (h1 : RowP w b1 v1 k1 L1) (h2 : RowP w b2 v2 k2 L2) (hk2 : k2 ≠ 0) (hk : k1 + k2 ≤ 1048576) (hb : b1 ≤ w.heap.size) :
    ∃ v' w', (Builtin.append_ #[83, 83] 83 #[v1, v2]).run Try.prog w = .ok v' w' ∧ RowP w' b1 v' (k1 + k2) (L1 ++ L2) ∧ w.grownBy w' v1.ownBlock ∧ (v'.ownBlock = v1.ownBlock ∨ v'.ownBlock = some w.heap.size) := by
  obtain ⟨g, c, rfl, hc1, hc2⟩ := own_some h2.own hk2
  obtain ⟨i90, z90, hi, hz, hsize, hby, hzs⟩ := info90z
  obtain ⟨v', w', r1, r2, r3, r4, r5⟩ := run_append_own_at (P := Try.prog) w b1 83 83 90 i90 z90 39 80 Try.underlying83 hi hz hsize hby hzs (by decide) v1 k1 _ h1.own ⟨g, 0, none⟩ k2 c (ptRow L2) (h2.own.1)
    (fun j u hu => by
      rcases h2.own.2 with ⟨e, _⟩ | ⟨g', cap, cur, e, hbg, hg, hnc, hcm, hcs, htake⟩
      · cases e
      · cases e
        rw [Addr.add_lit, cell_of_row w g _ cur 90 (0, 0) hg, Nat.zero_add, ← Array.getElem?_toList]
        rw [← htake, List.getElem?_take] at hu
        split at hu
        · exact hu
        · cases hu)
    (ptRow_one L2 (fun x hx => (h2.ok x hx).2)) (by unfold maxLen; omega) (by omega) hb
  refine ⟨v', w', r1, ⟨?_, by rw [List.length_append, h1.len, h2.len], fun z hz => ?_⟩, r3, r5⟩
  · have e : ptRow (L1 ++ L2) = ptRow L1 ++ ptRow L2 := by simp [ptRow]
    rw [e]; exact r2
  · rcases List.mem_append.1 hz with hz | hz
    · exact h1.ok z hz
    · exact h2.ok z hz
end Go.Proofs.Ytnckmaieghlpmaa
