
/- The law's scripts: what was made, who is gone. -/
import Derived.Test.YtnjchlggjdoboaaCq
set_option linter.unusedSimpArgs false
set_option linter.unusedVariables false
namespace Go.Cs
def anR (A : List ActS) (k : Nat) : Bk × List (List Int × List Int) := (A.take k).foldl stA (bk0, [])
theorem anR_succ {A : List ActS} {k : Nat} (h : k < A.length) : anR A (k + 1) = stA (anR A k) (A.getD k actZ) := by
  unfold anR
  have e : A.take (k + 1) = A.take k ++ [A.getD k actZ] := by
    rw [List.take_add_one, List.getD_eq_getElem?_getD, List.getElem?_eq_getElem h]; rfl
  rw [e, List.foldl_append]; rfl
theorem anR_inv {A : List ActS} (hA : ∀ a ∈ A, ActOk a) : ∀ k, k ≤ A.length → BOk (anR A k).1 ∧ Inv (anR A k).1 (anR A k).2
  | 0, _ => ⟨good_new, inv_new⟩
  | k + 1, h => by
    obtain ⟨h1, h2⟩ := anR_inv hA k (by omega)
    rw [anR_succ (by omega)]
    refine inv_do h1 h2 (hA _ ?_)
    rw [List.getD_eq_getElem?_getD, List.getElem?_eq_getElem (by omega)]; exact List.getElem_mem _
theorem anR_gone {A : List ActS} (hA : ∀ a ∈ A, ActOk a) : ∀ k, k ≤ A.length → (anR A k).1.R.length ≤ k ∧ (anR A k).2.length ≤ k
  | 0, _ => ⟨Nat.le_refl _, Nat.le_refl _⟩
  | k + 1, h => by
    obtain ⟨h1, h2⟩ := anR_gone hA k (by omega)
    have ha : ActOk (A.getD k actZ) := hA _ (by rw [List.getD_eq_getElem?_getD, List.getElem?_eq_getElem (by omega)]; exact List.getElem_mem _)
    rw [anR_succ (by omega)]
    refine ⟨?_, ?_⟩
    · show (doB (anR A k).1 (A.getD k actZ)).R.length ≤ _
      rw [do_gone ha]
      split
      · rw [List.length_append, List.length_singleton]; omega
      · omega
    · show (if _ then _ else _ : List (List Int × List Int)).length ≤ _
      split
      · rw [List.length_append, List.length_singleton]; omega
      · omega
theorem anR_th {A : List ActS} (hA : ∀ a ∈ A, ActOk a) : ∀ k, k ≤ A.length → ∀ j, ((anR A k).2.getD j thZ).1.length ≤ 4 ∧ ((anR A k).2.getD j thZ).2.length ≤ 4
  | 0, _, j => by
    show (([] : List (List Int × List Int)).getD j thZ).1.length ≤ 4 ∧ (([] : List (List Int × List Int)).getD j thZ).2.length ≤ 4
    rw [List.getD_eq_getElem?_getD, List.getElem?_nil]; decide
  | k + 1, h, j => by
    have ih := anR_th hA k (by omega) j
    have ha : ActOk (A.getD k actZ) := hA _ (by rw [List.getD_eq_getElem?_getD, List.getElem?_eq_getElem (by omega)]; exact List.getElem_mem _)
    rw [anR_succ (by omega)]
    show ((if _ then _ else _ : List (List Int × List Int)).getD j thZ).1.length ≤ 4 ∧ ((if _ then _ else _ : List (List Int × List Int)).getD j thZ).2.length ≤ 4
    by_cases hc : doE (anR A k).1 (A.getD k actZ) = 0 ∧ (A.getD k actZ).K = 0
    · rw [if_pos hc]
      generalize (anR A k).2 = M at *
      rcases Nat.lt_trichotomy j M.length with h1 | h1 | h1
      · rw [app_lt h1]; exact ih
      · rw [h1, app_eq]; exact ⟨ha.f, ha.p⟩
      · rw [List.getD_eq_getElem?_getD, List.getElem?_eq_none (by rw [List.length_append, List.length_singleton]; omega)]; decide
    · rw [if_neg hc]; exact ih
/-- Both books behind i turns. -/
def anS (b : Bk) (M : List (List Int × List Int)) (R : List Int) : Nat → Bk × Bk
  | 0 => (b, bk0)
  | i + 1 => (reN (anS b M R i).1 i, mkB (anS b M R i).2 (M.getD i thZ).1 (kept R (M.getD i thZ).2))
theorem anS_ok {b : Bk} {M : List (List Int × List Int)} (hb : BOk b) (hi : Inv b M) : ∀ i, i ≤ M.length → AnI (anS b M b.R i).1 (anS b M b.R i).2 M b.R i
  | 0, _ => an_new hb hi
  | i + 1, h => (an_step (anS_ok hb hi i (by omega)) (by omega)).2.1
end Go.Cs
namespace Go.Proofs.Ytnjchlggjdoboaa
open Go.V Go.RowKit Go.L Go.Cs Go.Dk
abbrev thsO (M : List (List Int × List Int)) : AV := .arr M.length 2 (fun i => thA (M.getD i thZ).1 (M.getD i thZ).2)
abbrev thsV (M : List (List Int × List Int)) : AV := .rsl false M.length 2 (fun i => thA (M.getD i thZ).1 (M.getD i thZ).2)
abbrev oH (o : Bk) : Asc := [(5, .pair (.sl 6 [] 4 0 o.E.length) (.pair (.mp 7) .nul)), (6, entsA o.E), (7, wornA (gm o.R))]
abbrev obH (o b : Bk) : Asc := [(5, .pair (.sl 6 [] 4 0 o.E.length) (.pair (.mp 7) .nul)), (6, entsA o.E), (7, wornA (gm o.R)), (0, bookA b.E.length), (1, entsA b.E), (2, wornA (gm b.R))]
theorem rel_thsnoc {A : Nat → Prop} {σ : Nat → Nat} {o : List (List Int × List Int)} {F P : List Int} {K : Nat → AV} {i : Nat} (hi : i < o.length + 1) (hK : K 0 = thA F P := by rfl) : RelA A σ (thA ((o ++ [(F, P)]).getD i thZ).1 ((o ++ [(F, P)]).getD i thZ).2) (joinF o.length (fun i => thA (o.getD i thZ).1 (o.getD i thZ).2) K i) := by
  rcases Nat.lt_or_ge i o.length with h1 | h1
  · rw [joinF_lt h1, app_lt h1]; exact NoId.self NI_
  · obtain rfl : i = o.length := by omega
    rw [joinF_ge (Nat.le_refl _), app_eq, Nat.sub_self, hK]; exact NoId.self NI_
theorem view_ths {H : Asc} {bor D : Nat → Prop} {σ : Nat → Nat} {id n : Nat} {M : List (List Int × List Int)} (h : get? H id = some (thsO M)) (hb : bor id) (hn : M.length = n) : View H bor D σ (thsV M) (.sl id [] 2 0 n) := by
  subst hn
  exact View.sl h rfl trivial (by omega) hb fun i hi => by rw [Nat.zero_add]; exact NoId.self NI_
end Go.Proofs.Ytnjchlggjdoboaa
