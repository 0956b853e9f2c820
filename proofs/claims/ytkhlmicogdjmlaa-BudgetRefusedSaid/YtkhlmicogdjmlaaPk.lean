
/- Budgets: what is refused changes nothing. -/
import Derived.Test.YtkhlmicogdjmlaaPi
import Derived.Test.YtkhlmicogdjmlaaPh
set_option linter.unusedSimpArgs false
set_option linter.unusedVariables false
namespace Go.Bg
open Go.Rt Go.Lx
theorem do_err {b : Bk} {x : ActS} (h : doE b x ≠ 0) : doB b x = b := by
  unfold doE at h
  unfold doB
  by_cases hx : isRm x = true
  · rw [if_pos hx] at h ⊢
    exact if_neg h
  · rw [if_neg hx] at h ⊢
    exact if_neg h
theorem rm_in {b : Bk} {p : Int} (h : 0 ≤ p ∧ p < b.A.length) : rmE b p = if b.R.getD p.toNat false = true then 7 else 0 := by
  unfold rmE
  rw [if_neg (by omega)]
theorem rm_R {b : Bk} (hb : BOk b) {p : Int} (h : 0 ≤ p ∧ p < b.A.length) : (rmB b p).R.getD p.toNat false = true ∧ (rmB b p).A = b.A := by
  unfold rmB
  rw [rm_in h]
  by_cases hR : b.R.getD p.toNat false = true
  · rw [if_pos hR, if_neg (by decide)]; exact ⟨hR, rfl⟩
  · rw [if_neg hR, if_pos rfl]
    refine ⟨?_, rfl⟩
    have hl : p.toNat < b.R.length := by rw [hb.r]; omega
    show (b.R.set p.toNat true).getD p.toNat false = true
    rw [List.getD_eq_getElem?_getD, List.getElem?_set_self hl]; rfl
theorem kn_one {b : Bk} {p : Int} (h : 0 ≤ p ∧ p < b.A.length) : knE b [p] = if b.R.getD p.toNat false = true then 24 else 0 := by
  have e : kn b [] p = if b.R.getD p.toNat false = true then 24 else 0 := by
    unfold kn
    rw [if_neg (by omega), if_neg List.not_mem_nil]
  show (if kn b [] p ≠ 0 then kn b [] p else 0) = _
  rw [e]
  split <;> simp
theorem ask_gone {b : Bk} {p : Int} (h : 0 ≤ p ∧ p < b.A.length) (hR : b.R.getD p.toNat false = true) : askE b [p] rz = 24 := by
  have hk := kn_one h
  rw [if_pos hR] at hk
  rw [ask_kn (by intro k; rcases k with k | k <;> cases k) (by rw [hk]; decide), hk]
theorem ask_free {b : Bk} (hv : BV b) {p : Int} (h : 0 ≤ p ∧ p < b.A.length) (hR : b.R.getD p.toNat false = false) : askE b [p] rz = 0 := by
  have hk := kn_one h
  rw [if_neg (by rw [hR]; decide)] at hk
  refine (ask_iff hv (by show 1 ≤ 3; decide) (Vk.zero 12) (by decide)).2 ⟨by simp, hk, fun i hi => ?_, fun i hi => ?_⟩
  · have := (hv.a i hi).le
    unfold pc
    split <;> omega
  · have := (hv.o i hi).le
    unfold sh
    rw [Int.mul_zero, Int.zero_mul]
    omega
end Go.Bg
