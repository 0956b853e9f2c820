
/- dioramalaw39.TreeProved. -/
import Derived.Test.YtbphmbmdkojbnaaDoorUz
set_option linter.unusedSimpArgs false
set_option linter.unusedVariables false
namespace Go.Proofs.YtbphmbmdkojbnaaDoor
open Go.V Go.RowKit Go.U Go.L
theorem longerR_len (x : List (List UInt8)) (k : Nat) (hk : k ≤ x.length) (d : Nat) (hd : x.length ≤ 2 ^ d) : (longerR x k).2 = 0 ∧ (longerR x k).1.length ≤ d + 1 := by
  unfold longerR
  rw [if_neg (by omega)]
  by_cases h : x.length = 0
  · rw [if_pos h]; exact ⟨rfl, by simp⟩
  · rw [if_neg h]
    refine ⟨rfl, ?_⟩
    show (rootsD x _).length ≤ _
    unfold rootsD
    rw [List.length_map]
    exact Tree.steps_log _ 0 _ (by omega) d hd
theorem longerR_DOk (x : List (List UInt8)) (k : Nat) (hk : k ≤ x.length) (d : Nat) (hd : x.length ≤ 2 ^ d) (hd2 : d ≤ 100) : DOk (longerR x k).1 := by
  refine ⟨by have := (longerR_len x k hk d hd).2; omega, fun y hy => ?_⟩
  unfold longerR at hy
  rw [if_neg (by omega)] at hy
  by_cases h : x.length = 0
  · rw [if_pos h] at hy
    simp at hy; rw [hy]; exact rootB_length _
  · rw [if_neg h] at hy
    obtain ⟨z, hz, rfl⟩ := List.mem_map.1 hy
    have := Tree.rest_mem 0 x.length (by omega) z hz
    exact rootD_length _ _ _ (by omega)
theorem rootsD_DOk (x : List (List UInt8)) (R : List (Nat × Nat)) (hR : R.length ≤ 1000) (hR2 : ∀ z ∈ R, z.1 < z.2) : DOk (rootsD x R) := by
  refine ⟨by unfold rootsD; rw [List.length_map]; omega, fun y hy => ?_⟩
  obtain ⟨z, hz, rfl⟩ := List.mem_map.1 hy
  exact rootD_length _ _ _ (by have := hR2 z hz; omega)
end Go.Proofs.YtbphmbmdkojbnaaDoor
