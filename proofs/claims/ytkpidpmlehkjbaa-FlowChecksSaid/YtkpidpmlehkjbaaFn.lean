/- Drawn regions whose tail waits by way of its own operations. -/
import Derived.Test.YtkpidpmlehkjbaaFe
set_option linter.unusedSimpArgs false
set_option linter.unusedVariables false
namespace Go.V
open Go.RowKit Go.L Go.Chain
section
variable {P : Program} {ops : Array Oper} {Q : Exit → Act → World → Prop}
theorem og3 {I : List Nat → Act → World → Prop} {ds : List Nat} {m : Nat} (h1 : ds.Nodup) (hlt : ∀ j ∈ ds, j < ops.size) (hac : Og.acyc ops = true)
    (htail : ∀ j, j < ops.size → j ∈ ds ∨ ∀ i ∈ ds, ∃ L n, Og.cov ops L n j i = true)
    (items : ∀ rem : List Nat, rem.Nodup → (∀ i ∈ rem, i ∈ ds) → ∀ j ∈ rem, (∀ i, waits .any ops j i = true → i ∈ ds → i ∉ rem) → (∀ i k, i ∈ ds → i ∉ rem → waits .any ops i k = true → k ∈ ds → k ∉ rem) → ∀ a w, I rem a w → wpOp P ops Q j (fun a' w' => I (rem.erase j) a' w') a w)
    (rest : ∀ a w, I [] a w → wpAny P .any ops Q m (afterL ops ds) a w) :
    ∀ (k : Nat) (rem : List Nat) (listed : Array Bool) (a : Act) (w : World), rem.length = k → rem.Nodup → (∀ i ∈ rem, i ∈ ds) → listed.size = ops.size →
      (∀ i, i < ops.size → (listed.getD i false = true ↔ i ∈ ds ∧ i ∉ rem)) → Og.dclosed ops listed → I rem a w → wpAny P .any ops Q (m + k) listed a w := by
  intro k
  induction k with
  | zero =>
    intro rem listed a w hk _ _ hsz hiff _ hI
    have hrem : rem = [] := List.length_eq_zero_iff.1 hk
    subst hrem
    have : listed = afterL ops ds := by
      refine Array.ext (by simp [afterL, hsz]) ?_
      intro i hi hi'
      have := hiff i (by omega)
      have hin : (afterL ops ds)[i] = ds.contains i := by simp [afterL]
      rw [hin, Bool.eq_iff_iff]
      have hge : listed.getD i false = listed[i] := by simp [hi]
      rw [hge] at this
      rw [this]
      simp
    rw [this]
    exact rest a w hI
  | succ k ih =>
    intro rem listed a w hk hnd hsub hsz hiff hdc hI
    obtain ⟨p0, hp0⟩ : ∃ p, p ∈ rem := by
      cases rem with
      | nil => cases hk
      | cons p _ => exact ⟨p, List.mem_cons_self⟩
    have hun : ∀ p ∈ rem, listed.getD p false = false := by
      intro p hp
      cases hv : listed.getD p false with
      | false => rfl
      | true => exact absurd hp ((hiff p (hlt p (hsub p hp))).1 hv).2
    refine ⟨fun hr => absurd hr (Og.progress hsz hac p0 (hlt p0 (hsub p0 hp0)) (hun p0 hp0)), fun j hj => ?_⟩
    have hjs : j < ops.size := by
      obtain ⟨_, o, ho, _⟩ := mem_ready.1 hj
      exact (Array.getElem?_eq_some_iff.1 ho).1
    rcases htail j hjs with hp | hc
    · have hpr : j ∈ rem := by
        refine Classical.byContradiction fun hn => ?_
        have ht := (hiff j hjs).2 ⟨hp, hn⟩
        have hf := (mem_ready.1 hj).1
        rw [getD_false_of_true hf] at ht
        cases ht
      refine wpOp_mono ?_ (items rem hnd hsub j hpr (fun i hw hi => ((hiff i (hlt i hi)).1 (Og.waits_listed hj hw)).2) (fun i k hi hir hw hkd => ((hiff k (hlt k hkd)).1 (dclosed_waits hdc ((hiff i (hlt i hi)).2 ⟨hi, hir⟩) hw)).2) a w hI)
      intro a' w' hI'
      refine ih (rem.erase j) (listed.setIfInBounds j true) a' w' ?_ (hnd.erase j) (fun q hq => hsub q (List.mem_of_mem_erase hq)) (by simpa using hsz) ?_ (Og.dclosed_set hdc hj) hI'
      · rw [List.length_erase_of_mem hpr, hk]; rfl
      · intro i hi
        by_cases hpi : j = i
        · subst hpi
          constructor
          · intro _; exact ⟨hp, hnd.not_mem_erase⟩
          · intro _
            have h' : j < listed.size := by omega
            simp [h']
        · rw [getD_set_ne false hpi, hiff i hi]
          constructor
          · rintro ⟨h2, h3⟩; exact ⟨h2, fun h => h3 (List.mem_of_mem_erase h)⟩
          · rintro ⟨h2, h3⟩
            exact ⟨h2, fun h => h3 ((hnd.mem_erase_iff).2 ⟨fun e => hpi e.symm, h⟩)⟩
    · obtain ⟨L, n, hc⟩ := hc p0 (hsub p0 hp0)
      have := Og.cov_listed hdc hj _ _ hc
      rw [hun p0 hp0] at this
      cases this
end
end Go.V
