
/- Package tree: digests, leaf, node, half, the root of a part of the leaves. -/
import Derived.Test.YthejnchhddggmaaDoorIj
import Derived.Test.YthejnchhddggmaaDoorFe
import Derived.Test.YthejnchhddggmaaDoorTa
set_option linter.unusedSimpArgs false
set_option linter.unusedVariables false
namespace Go.Proofs.YthejnchhddggmaaDoor
open Go.V Go.RowKit Go.U Go.L
@[irreducible] def digD (t : Int) (ps : List (List UInt8)) : List UInt8 := (Sha.sum (inputB t ps)).take 16
theorem digD_length (t : Int) (ps : List (List UInt8)) : (digD t ps).length = 16 := by
  unfold digD
  rw [List.length_take]; rfl
def digA (d : List UInt8) : AV := u8A 16 d
theorem ofD_ok (t : Int) (ps : List (List UInt8)) (ht : -9223372036854775808 ≤ t ∧ t ≤ 9223372036854775807) (hl : ps.length ≤ 1000000000) (hps : (partsB ps).length ≤ 1000000000000) : Ok Tryd.prog 34 gK [] (.pair (.int .i64 t) (.pair (strs ps) .nul)) (fun r h' => r = digA (digD t ps) ∧ h' = []) :=
  (of_ok t ps ht hl hps).res (rep_arr_eq fun i hi => by
    unfold digD
    rw [List.getD_eq_getElem?_getD, List.getD_eq_getElem?_getD, List.getElem?_take_of_lt hi])
def nodeD (a b : List UInt8) : List UInt8 := digD 2 [a, b]
end Go.Proofs.YthejnchhddggmaaDoor
