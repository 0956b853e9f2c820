
/- The laws of the digits: SignDigitsMatchSpec, SignDigitsCross. -/
import Derived.Test.YthejnchhddggmaaDoorNx
set_option linter.unusedSimpArgs false
set_option linter.unusedVariables false
namespace Go.Sg
open Go.V
end Go.Sg
namespace Go.Proofs.YthejnchhddggmaaDoor
open Go.V Go.RowKit Go.U Go.L Go.Lx Go.Sg
set_option maxRecDepth 10000
set_option maxHeartbeats 4000000
def gA : Asc := [(1, u32A 64 Sha.kTab), (0, u32A 64 Sha.kTab)]
theorem gA_ok : GOk gA := by
  intro x v h
  unfold gA at h
  rw [get?_cons] at h
  split at h
  · cases h; exact ⟨fun i hi => trivial, fun i hi => trivial⟩
  · rw [get?_cons] at h
    split at h
    · cases h; exact ⟨fun i hi => trivial, fun i hi => trivial⟩
    · cases h
theorem gK_A : subG gK gA := by
  intro x v h
  unfold gK at h
  rw [get?_cons] at h
  split at h
  · rename_i e; subst e; cases h; rfl
  · cases h
theorem gR_A : subG gR gA := by
  intro x v h
  unfold gR at h
  rw [get?_cons] at h
  split at h
  · rename_i e; subst e; cases h; rfl
  · cases h
end Go.Proofs.YthejnchhddggmaaDoor
