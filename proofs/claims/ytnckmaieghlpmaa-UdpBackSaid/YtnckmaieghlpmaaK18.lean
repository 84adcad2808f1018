/-
  Closed facts on the datagrams that horologelaw18.known names.
-/
import Derived.Test.YtnckmaieghlpmaaUopen
import Derived.Test.YtnckmaieghlpmaaEnd
namespace Go.Proofs.Ytnckmaieghlpmaa
open Go.RowKit
set_option linter.unusedVariables false

def kA : List UInt8 := [10, 0, 0, 1, 0, 0, 0, 0, 0, 0, 0, 0, 0, 0, 0, 0]
def kB : List UInt8 := [10, 0, 0, 2, 0, 0, 0, 0, 0, 0, 0, 0, 0, 0, 0, 0]
theorem kc52a : Try.prog.built 52 [(0, .int .u8 10), (1, .int .u8 0), (2, .int .u8 0), (3, .int .u8 1)] = some (kA.map byteV).toArray := by kernel_rfl
theorem kc52b : Try.prog.built 52 [(0, .int .u8 10), (1, .int .u8 0), (2, .int .u8 0), (3, .int .u8 2)] = some (kB.map byteV).toArray := by kernel_rfl
theorem kc54a : Try.prog.built 54 [(1, .agg (kA.map byteV).toArray)] = some (adrC false kA) := by kernel_rfl
theorem kc54b : Try.prog.built 54 [(1, .agg (kB.map byteV).toArray)] = some (adrC false kB) := by kernel_rfl
theorem kc61a : Try.prog.built 61 [(0, .agg (adrC false kA)), (1, .int .u16 123)] = some (endC false kA 123) := by kernel_rfl
theorem kc61b : Try.prog.built 61 [(0, .agg (adrC false kB)), (1, .int .u16 123)] = some (endC false kB 123) := by kernel_rfl
theorem k18_1 : udpB false kA kB 123 123 [255] = [0, 123, 0, 123, 0, 9, 235, 226, 255] := by decide +kernel
theorem k18_2 : getN false [0, 123, 0, 123, 0, 9, 235, 226, 255] 4 2 = 9 := by decide +kernel
theorem k18_3 : getN false [0, 123, 0, 123, 0, 9, 235, 226, 255] 6 2 = 60386 := by decide +kernel
theorem k18_4 : csum (aheadB false kA kB 9 ++ List.take 9 [0, 123, 0, 123, 0, 9, 235, 226, 255]) = 0 := by decide +kernel
theorem k18_5 : getN false [0, 123, 0, 123, 0, 9, 235, 226, 255] 0 2 = 123 := by decide +kernel
theorem k18_6 : getN false [0, 123, 0, 123, 0, 9, 235, 226, 255] 2 2 = 123 := by decide +kernel
theorem k18_7 : getN false [0, 123, 0, 123, 0, 9, 0, 0, 255] 4 2 = 9 := by decide +kernel
theorem k18_8 : getN false [0, 123, 0, 123, 0, 9, 0, 0, 255] 6 2 = 0 := by decide +kernel
theorem k18_9 : getN false [0, 123, 0, 123, 0, 9, 0, 0, 255] 0 2 = 123 := by decide +kernel
theorem k18_10 : getN false [0, 123, 0, 123, 0, 9, 0, 0, 255] 2 2 = 123 := by decide +kernel
theorem k18_11 : getN false [0, 123, 0, 123, 0, 9, 235, 227, 255] 4 2 = 9 := by decide +kernel
theorem k18_12 : getN false [0, 123, 0, 123, 0, 9, 235, 227, 255] 6 2 = 60387 := by decide +kernel
theorem k18_13 : csum (aheadB false kA kB 9 ++ List.take 9 [0, 123, 0, 123, 0, 9, 235, 227, 255]) ≠ 0 := by decide +kernel
end Go.Proofs.Ytnckmaieghlpmaa
