/-
  string(b) of a slice of bytes.
-/
import Derived.Test.YtnckmaieghlpmaaKit
namespace Go.Proofs.Ytnckmaieghlpmaa
open Go.RowKit
set_option linter.unusedVariables false

def mkS (bs : List UInt8) : ByteArray := ⟨bs.toArray⟩

theorem strOf (bs : List UInt8) : strOfNums (bs.map fun x => (x.toNat : Int)) = mkS bs := by
  unfold strOfNums mkS
  congr 2
  rw [List.map_map]
  have : ((fun n : Int => UInt8.ofNat n.toNat) ∘ fun x : UInt8 => (x.toNat : Int)) = id := by funext x; simp
  rw [this, List.map_id]

theorem conv_bs {w : World} {v : Value} {bs : List UInt8} (h : Bs w v bs) : (convert 24 9 v).run Try.prog w = .ok (.string (mkS bs)) w := by
  obtain ⟨a, c, rfl, _, _, hat⟩ := h
  rcases hat with rfl | ⟨b, o, rfl, hc⟩
  · show (convert 24 9 (.slice a 0 c)).run Try.prog w = _
    rw [run_convert_bytes_string w 24 9 5 a 0 c Try.underlying24 Try.underlying5 Try.underlying9]
    cases a with
    | none => rfl
    | some ad => rw [run_bytesToString w ad 0 c [] (by simp [loadCells, loadCellsFrom])]; rfl
  · have := run_convert_bytes_arg (P := Try.prog) w 24 5 Try.underlying24 Try.underlying5 b o bs.length c (bs.map fun x => (x.toNat : Int)) (by simp) (fun i hi => by
      rw [hc i bs[i] (by simp [hi])]
      simp [List.getD, hi]) 9 Try.underlying9
    rw [this, strOf]
theorem mkS_inj {a b : List UInt8} (h : mkS a = mkS b) : a = b := by
  have := congrArg (fun s : ByteArray => s.data.toList) h
  simpa [mkS] using this
theorem mkS_size (a : List UInt8) : (mkS a).size = a.length := by simp [mkS, ByteArray.size]
theorem mkS_append (a b : List UInt8) : mkS a ++ mkS b = mkS (a ++ b) := by
  apply ByteArray.ext
  simp [mkS]
end Go.Proofs.Ytnckmaieghlpmaa
