
/- dioramalaw39.TreeExtends. -/
import Derived.Test.YtbphmbmdkojbnaaDoorUc
import Derived.Test.YtbphmbmdkojbnaaDoorUd
set_option linter.unusedSimpArgs false
set_option linter.unusedVariables false
namespace Go.Proofs.YtbphmbmdkojbnaaDoor
open Go.V Go.RowKit Go.U Go.L
def gA : Asc := [(0, u32A 64 Sha.kTab), (1, u32A 64 Sha.kTab)]
theorem gA_ok : GOk gA := by
  intro x v h
  unfold gA at h
  rw [get?_cons] at h
  split at h
  · cases h; exact ⟨fun i hi => trivial, fun i hi => trivial⟩
  · rw [get?_cons] at h
    split at h
    · cases h; exact ⟨fun i hi => trivial, fun i hi => trivial⟩
    · cases h
theorem gK_A : subG gK gA := by
  intro x v h
  unfold gK at h
  rw [get?_cons] at h
  split at h
  · rename_i e; subst e; cases h; rfl
  · cases h
theorem gR_A : subG gR gA := by
  intro x v h
  unfold gR at h
  rw [get?_cons] at h
  split at h
  · rename_i e; subst e; cases h; rfl
  · cases h
end Go.Proofs.YtbphmbmdkojbnaaDoor
