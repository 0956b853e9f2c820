
/- What the examples of the documentation hash, reckoned by the kernel. -/
import Derived.Test.YthejnchhddggmaaDoorNt
set_option linter.unusedSimpArgs false
set_option linter.unusedVariables false
namespace Go.Sg
set_option maxRecDepth 100000
def xL0 : List Nat := [57, 13, 44, 11, 124, 241, 52, 202, 78, 170, 151, 43, 111, 6, 194, 91]
def xL1 : List Nat := [246, 238, 40, 44, 203, 116, 193, 183, 28, 127, 28, 224, 102, 243, 193, 36]
def xp : List Nat := [63, 222, 13, 97, 98, 161, 189, 56, 185, 133, 123, 87, 40, 3, 112, 192]
def xDm : List Nat := [157, 210, 247, 50, 75, 228, 237, 227, 114, 188, 193, 124, 67, 219, 48, 69]
def xD0 : List Nat := [116, 206, 13, 229, 151, 158, 249, 137, 78, 82, 213, 143, 87, 246, 39, 21]
def xDn : List Nat := [152, 6, 136, 12, 87, 134, 33, 233, 4, 103, 68, 249, 113, 221, 78, 194]
def xLw : List Nat := [7, 6, 7, 98, 207, 146, 209, 33, 126, 174, 199, 132, 223, 191, 60, 201]
def xpw : List Nat := [33, 115, 65, 225, 186, 133, 106, 80, 8, 152, 163, 234, 64, 97, 129, 179]
theorem k_L0 : leafL (fun c => advL 0 c 0 3 (startL (List.replicate 32 5) 0 c)) = xL0 := by decide +kernel
theorem k_L1 : leafL (fun c => advL 1 c 0 3 (startL (List.replicate 32 5) 1 c)) = xL1 := by decide +kernel
theorem k_p : dgL 2 [xL0, xL1] = xp := by decide +kernel
theorem k_Dm : dgL 4 [xp, intL 1, [109]] = xDm := by decide +kernel
theorem k_D0 : dgL 4 [xp, intL 0, [109]] = xD0 := by decide +kernel
theorem k_Dn : dgL 4 [xp, intL 1, [110]] = xDn := by decide +kernel
theorem k_Lw : leafL (fun c => advL 1 c (digsL xDn c) (3 - digsL xDn c) (advL 1 c 0 (digsL xDm c) (startL (List.replicate 32 5) 1 c))) = xLw := by decide +kernel
theorem k_pw : dgL 2 [xL0, xLw] = xpw := by decide +kernel
theorem k_ne : xDm ≠ xD0 ∧ xpw ≠ xp := by decide
end Go.Sg
