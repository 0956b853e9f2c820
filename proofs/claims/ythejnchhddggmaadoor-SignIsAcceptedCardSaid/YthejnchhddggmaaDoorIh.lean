
/- dioramaref02.Sum. -/
import Derived.Test.YthejnchhddggmaaDoorGd
set_option linter.unusedSimpArgs false
set_option linter.unusedVariables false
namespace Go.Proofs.YthejnchhddggmaaDoor
open Go.V Go.RowKit Go.U Go.L
def gR : Asc := [(0, u32A 64 Sha.kTab)]
theorem gR_ok : GOk gR := by
  intro x v h
  unfold gR at h
  rw [get?_cons] at h
  split at h
  · cases h; exact ⟨fun i hi => trivial, fun i hi => trivial⟩
  · cases h
end Go.Proofs.YthejnchhddggmaaDoor
