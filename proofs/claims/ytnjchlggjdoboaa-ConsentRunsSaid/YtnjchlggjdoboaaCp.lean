
/- Books of consent: what is usable is well made. -/
import Derived.Test.YtnjchlggjdoboaaCk
set_option linter.unusedSimpArgs false
set_option linter.unusedVariables false
namespace Go.Cs
def thZ : List Int × List Int := ([], [])
structure Inv (b : Bk) (M : List (List Int × List Int)) : Prop where
  len : M.length = b.E.length
  fp : ∀ k, k < b.E.length → (b.E.getD k entZ).F = (M.getD k thZ).1 ∧ kept b.R (b.E.getD k entZ).P = kept b.R (M.getD k thZ).2
  use : ∀ k, k < b.E.length → (b.E.getD k entZ).U = true → (∀ i ∈ (b.E.getD k entZ).F, (b.E.getD i.toNat entZ).U = true) ∧ (b.E.getD k entZ).B = baseOf b.E (b.E.getD k entZ).F (b.E.getD k entZ).P ∧ ∀ x ∈ (b.E.getD k entZ).B, x ∉ b.R
theorem mem_kept {R P : List Int} {x : Int} : x ∈ kept R P ↔ x ∈ P ∧ x ∉ R := by
  unfold kept
  rw [List.mem_filter]; simp
theorem map_get {E : List Ent} {p : Int} (k : Nat) : (E.map (gone p)).getD k entZ = gone p (E.getD k entZ) := by
  rcases Nat.lt_or_ge k E.length with h | h
  · rw [List.getD_eq_getElem?_getD, List.getElem?_map, List.getD_eq_getElem?_getD, List.getElem?_eq_getElem h]; rfl
  · rw [List.getD_eq_getElem?_getD, List.getElem?_map, List.getD_eq_getElem?_getD, List.getElem?_eq_none h]
    show entZ = gone p entZ
    unfold gone
    rw [if_neg (by show ¬ p ∈ ([] : List Int); simp)]
theorem gone_fp (p : Int) (e : Ent) : (gone p e).F = e.F ∧ (gone p e).P = e.P ∧ (gone p e).B = e.B ∧ ((gone p e).U = true ↔ e.U = true ∧ p ∉ e.B) := by
  unfold gone
  split
  · rename_i h; simp [h]
  · rename_i h; simp [h]
theorem good_rm {b : Bk} (hb : BOk b) (p : Int) : BOk (rmB b p) := by
  unfold rmB
  split
  · rename_i h
    have hp : (0 ≤ p ∧ p < 65536) ∧ p ∉ b.R := by
      unfold rmE at h
      split at h
      · cases h
      · split at h
        · cases h
        · rename_i h1 h2; exact ⟨by omega, h2⟩
    refine ⟨by show (b.E.map _).length ≤ 256; rw [List.length_map]; exact hb.n, fun k hk => ?_, fun k hk => ?_, fun k hk => ?_, List.nodup_append.2 ⟨hb.r.1, by simp, fun x hx y hy e => hp.2 (by rw [List.mem_singleton.1 hy] at e; exact e ▸ hx)⟩, fun x hx => ?_⟩
    all_goals try
      have hk : k < b.E.length := by
        have hk : k < (b.E.map (gone p)).length := hk
        rwa [List.length_map] at hk
      show _ ∧ _
      rw [map_get]
    · rw [(gone_fp p _).1]; exact hb.f k hk
    · rw [(gone_fp p _).2.1]; exact hb.p k hk
    · rw [(gone_fp p _).2.2.1]; exact hb.q k hk
    · rcases List.mem_append.1 hx with hx | hx
      · exact hb.r.2 x hx
      · rw [List.mem_singleton.1 hx]; exact hp.1
  · exact hb
theorem rnE_zero {b : Bk} {i : Int} (h : rnE b i = 0) : (0 ≤ i ∧ i < b.E.length) ∧ (b.E.getD i.toNat entZ).U = false ∧ stale b.E (b.E.getD i.toNat entZ).F = false := by
  unfold rnE at h
  split at h
  · cases h
  rename_i h1
  split at h
  · cases h
  rename_i h2
  split at h
  · cases h
  rename_i h3
  unfold badT at h1
  exact ⟨by omega, by simpa using h2, by simpa using h3⟩
theorem good_rn {b : Bk} (hb : BOk b) (i : Int) : BOk (rnB b i) := by
  unfold rnB
  split
  · rename_i h
    obtain ⟨h1, h2, h3⟩ := rnE_zero h
    have hin : i.toNat < b.E.length := by omega
    have hlen : (b.E.set i.toNat (renewed b (b.E.getD i.toNat entZ))).length = b.E.length := List.length_set
    have hK : ∀ x ∈ kept b.R (b.E.getD i.toNat entZ).P, 0 ≤ x ∧ x < 65536 := fun x hx => (hb.p _ hin).2.2 x (mem_kept.1 hx).1
    have hget : ∀ k, (b.E.set i.toNat (renewed b (b.E.getD i.toNat entZ))).getD k entZ = if k = i.toNat then renewed b (b.E.getD i.toNat entZ) else b.E.getD k entZ := fun k => by
      by_cases hk : k = i.toNat
      · rw [if_pos hk, hk, setE_get hin]
      · rw [if_neg hk, setE_ne hk]
    refine ⟨by show (b.E.set _ _).length ≤ 256; rw [hlen]; exact hb.n, fun k hk => ?_, fun k hk => ?_, fun k hk => ?_, hb.r⟩
    all_goals
      have hk : k < b.E.length := hlen ▸ hk
      show _ ∧ _
      rw [hget k]
    · split
      · rename_i e; rw [e]; exact hb.f _ hin
      · exact hb.f k hk
    · split
      · exact ⟨List.Pairwise.filter _ (hb.p _ hin).1, Nat.le_trans (List.length_filter_le _ _) (hb.p _ hin).2.1, hK⟩
      · exact hb.p k hk
    · split
      · exact ⟨uniq_inc _, baseOf_in hb hK⟩
      · exact hb.q k hk
  · exact hb
end Go.Cs
