
/- The program's disks and the reference's: operation by operation. -/
import Derived.Test.YtnehadphaakepaaEm
set_option linter.unusedSimpArgs false
set_option linter.unusedVariables false
namespace Go.Proofs.Ytnehadphaakepaa
open Go.V Go.RowKit Go.L Go.Dk
variable {n : Nat} {B : List Bs} {P : PM} {W : WM} {off : Bool} {left : Int}
theorem keys_iff (h : Good n B P W left) (x : Int) : x ∈ P.map (·.1) ↔ 0 ≤ x ∧ x < n ∧ (mFind P ((x.toNat : Nat) : Int)).isSome = true := by
  constructor
  · intro hx
    obtain ⟨v, hv⟩ := mFind_some_of hx
    have h1 := h.pin _ (mFind_mem hv)
    refine ⟨h1.1, h1.2, ?_⟩
    rw [Int.toNat_of_nonneg h1.1, hv]; rfl
  · rintro ⟨h0, _, h2⟩
    rw [Int.toNat_of_nonneg h0] at h2
    cases hf : mFind P x with
    | none => rw [hf] at h2; cases h2
    | some v => exact List.mem_map.2 ⟨_, mFind_mem hf, rfl⟩
theorem pend_picked (h : Good n B P W left) : sortI (P.map (·.1)) = picked (fun i => (mFind P (i : Int)).isSome) n :=
  sortI_picked _ n h.pnd (keys_iff h)
theorem mount_secs (h : Good n B P W left) (picks : List Int) : (rmt picks n (secs n B P W)).1 = secs n (allB picks B P W).1 (allB picks B P W).2 W := by
  have := (rmt_secs (W := W) picks h.len h.pnd n (Nat.le_refl _)).1
  rw [this]
  unfold allB
  rw [pend_picked h]
theorem write_secs {I : Int} (h0 : 0 ≤ I) (h1 : I < n) (s : Bs) : wrS (secs n B P W) I s = secs n B (mSet P I s) W := by
  unfold wrS
  rw [secs_get (by omega)]
  refine secs_set ?_ fun j hj hji => ?_
  · unfold secAt
    rw [Int.toNat_of_nonneg h0, mFind_mSet, if_pos rfl]; rfl
  · unfold secAt
    rw [mFind_mSet, if_neg (by omega)]
theorem wear_secs {I : Int} (h0 : 0 ≤ I) (h1 : I < n) : (secs n B P W).set I.toNat ⟨((secs n B P W).getD I.toNat secZ).T, ((secs n B P W).getD I.toNat secZ).X, ((secs n B P W).getD I.toNat secZ).D, true⟩ = secs n B P (mSet W I true) := by
  rw [secs_get (by omega)]
  refine secs_set ?_ fun j hj hji => ?_
  · unfold secAt isW
    rw [Int.toNat_of_nonneg h0, mFind_mSet, if_pos rfl]; rfl
  · unfold secAt isW
    rw [mFind_mSet, if_neg (by omega)]
theorem rot_secs {I : Int} (h0 : 0 ≤ I) (h1 : I < n) (hB : B.length = n) (b : Bs) : (secs n B P W).set I.toNat ⟨b, ((secs n B P W).getD I.toNat secZ).X, ((secs n B P W).getD I.toNat secZ).D, ((secs n B P W).getD I.toNat secZ).W⟩ = secs n (B.set I.toNat b) P W := by
  rw [secs_get (by omega)]
  refine secs_set ?_ fun j hj hji => ?_
  · unfold secAt
    rw [getD_set (by omega)]
  · unfold secAt
    rw [getD_set_ne hji]
theorem read_secs (I : Int) : rrdS n off (secs n B P W) I = rdS n off B P I := by
  unfold rrdS rdS
  by_cases hc : chk n off I = 0
  · obtain ⟨_, h0, h1⟩ := chk_zero hc
    have hc' : ¬ chk n off I ≠ 0 := fun h => h hc
    rw [if_neg hc', if_neg hc', secs_get (by omega)]
    unfold secAt
    rw [Int.toNat_of_nonneg h0]
    cases mFind P I <;> rfl
  · rw [if_pos hc, if_pos hc]
theorem rgood_secs (h : Good n B P W left) : RGood n (secs n B P W) := by
  refine ⟨secs_len, fun s hs => ?_, fun s hs hd => ?_⟩
  all_goals
    unfold secs at hs
    obtain ⟨i, hi, rfl⟩ := List.mem_map.1 hs
    have hi := List.mem_range.1 hi
  · exact h.b64 _ (getD_mem (by rw [h.len]; exact hi))
  · have hd : (mFind P (i : Int)).isSome = true := hd
    show ((mFind P (i : Int)).getD []).length = 64
    cases hf : mFind P (i : Int) with
    | none => rw [hf] at hd; cases hd
    | some v => exact h.p64 _ (mFind_mem hf)
theorem stp_left (l : Int) : stpE (max (-1) l) = stpE l ∧ stpL (max (-1) l) = max (-1) (stpL l) ∧ ∀ o, stpO o (max (-1) l) = stpO o l := by
  refine ⟨?_, ?_, fun o => ?_⟩
  · unfold stpE
    by_cases h : l = 0
    · rw [if_pos h, if_pos (by omega)]
    · rw [if_neg h, if_neg (by omega)]
  · unfold stpL
    by_cases h : 0 < l
    · rw [if_pos h, if_pos (by omega)]; omega
    · rw [if_neg h, if_neg (by omega)]
  · unfold stpO
    by_cases h : l = 0
    · rw [if_pos h, if_pos (by omega)]
    · rw [if_neg h, if_neg (by omega)]
end Go.Proofs.Ytnehadphaakepaa
