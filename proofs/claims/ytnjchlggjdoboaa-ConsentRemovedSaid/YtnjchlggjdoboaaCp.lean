
/- Books of consent: what is usable is well made. -/
import Derived.Test.YtnjchlggjdoboaaCk
set_option linter.unusedSimpArgs false
set_option linter.unusedVariables false
namespace Go.Cs
def thZ : List Int × List Int := ([], [])
structure Inv (b : Bk) (M : List (List Int × List Int)) : Prop where
  len : M.length = b.E.length
  fp : ∀ k, k < b.E.length → (b.E.getD k entZ).F = (M.getD k thZ).1 ∧ kept b.R (b.E.getD k entZ).P = kept b.R (M.getD k thZ).2
  use : ∀ k, k < b.E.length → (b.E.getD k entZ).U = true → (∀ i ∈ (b.E.getD k entZ).F, (b.E.getD i.toNat entZ).U = true) ∧ (b.E.getD k entZ).B = baseOf b.E (b.E.getD k entZ).F (b.E.getD k entZ).P ∧ ∀ x ∈ (b.E.getD k entZ).B, x ∉ b.R
theorem mem_base {E : List Ent} {F P : List Int} {x : Int} : x ∈ baseOf E F P ↔ x ∈ P ∨ ∃ i ∈ F, x ∈ baseAt E i := by
  unfold baseOf
  rw [uniq_mem, List.mem_append, List.mem_flatten]
  constructor
  · rintro (h | ⟨l, hl, hx⟩)
    · exact .inl h
    · obtain ⟨i, hi, rfl⟩ := List.mem_map.1 hl
      exact .inr ⟨i, hi, hx⟩
  · rintro (h | ⟨i, hi, hx⟩)
    · exact .inl h
    · exact .inr ⟨_, List.mem_map.2 ⟨i, hi, rfl⟩, hx⟩
theorem baseOf_congr {E E' : List Ent} {F P : List Int} (h : ∀ i ∈ F, baseAt E i = baseAt E' i) : baseOf E F P = baseOf E' F P := by
  unfold baseOf
  rw [List.map_congr_left h]
theorem mem_kept {R P : List Int} {x : Int} : x ∈ kept R P ↔ x ∈ P ∧ x ∉ R := by
  unfold kept
  rw [List.mem_filter]; simp
theorem kept_self {R P : List Int} (h : ∀ x ∈ P, x ∉ R) : kept R P = P := by
  unfold kept
  exact List.filter_eq_self.2 fun x hx => by simpa using h x hx
theorem kept_snoc {R P : List Int} {p : Int} : kept (R ++ [p]) P = (kept R P).filter fun x => !decide (x = p) := by
  unfold kept
  rw [List.filter_filter]
  refine List.filter_congr fun x _ => ?_
  by_cases h1 : x ∈ R <;> by_cases h2 : x = p <;> simp [h1, h2]
theorem inv_new : Inv bk0 [] := ⟨rfl, fun k hk => (by cases hk), fun k hk => (by cases hk)⟩
theorem any_false {E : List Ent} {F : List Int} (h : stale E F = false) : ∀ i ∈ F, (E.getD i.toNat entZ).U = true := fun i hi => by
  unfold stale at h
  have := List.any_eq_false.1 h i hi
  simpa using this
theorem inv_mk {b : Bk} {M : List (List Int × List Int)} (hb : BOk b) (hi : Inv b M) {F P : List Int} (h : mkE b F P = 0) : Inv (mkB b F P) (M ++ [(F, P)]) := by
  obtain ⟨h1, h2, h3, h4, h5, h6⟩ := mkE_zero h
  obtain ⟨p1, p2⟩ := risP_all h3
  have e : mkB b F P = ⟨b.E ++ [⟨F, P, baseOf b.E F P, true⟩], b.R⟩ := if_pos h
  rw [e]
  have hus := any_false h6
  have hat : ∀ i : Int, 0 ≤ i → i < b.E.length → baseAt (b.E ++ [⟨F, P, baseOf b.E F P, true⟩]) i = baseAt b.E i := fun i h0 h1 => by
    unfold baseAt; rw [app_lt (by omega)]
  have hF : ∀ i ∈ F, 0 ≤ i ∧ i < b.E.length := fun i hi => by have := p2 i hi; omega
  have hlen : (b.E ++ [(⟨F, P, baseOf b.E F P, true⟩ : Ent)]).length = b.E.length + 1 := by simp
  have hget : ∀ k, k < b.E.length → (b.E ++ [(⟨F, P, baseOf b.E F P, true⟩ : Ent)]).getD k entZ = b.E.getD k entZ := fun k hk => app_lt hk
  refine ⟨by rw [hlen]; simp [hi.len], fun k hk => ?_, fun k hk hu => ?_⟩
  all_goals
    have hk : k < b.E.length + 1 := hlen ▸ hk
  · show (_ : Ent).F = _ ∧ _
    by_cases hkl : k < b.E.length
    · rw [hget k hkl, app_lt (by rw [hi.len]; exact hkl)]
      exact hi.fp k hkl
    · have hk : k = b.E.length := by omega
      rw [hk, app_eq]
      rw [show b.E.length = M.length from hi.len.symm, app_eq]
      exact ⟨rfl, rfl⟩
  · by_cases hkl : k < b.E.length
    · have hu : (b.E.getD k entZ).U = true := by
        have hu : ((b.E ++ [(⟨F, P, baseOf b.E F P, true⟩ : Ent)]).getD k entZ).U = true := hu
        rwa [hget k hkl] at hu
      obtain ⟨g1, g2, g3⟩ := hi.use k hkl hu
      have hf := (hb.f k hkl).2
      show (∀ i ∈ ((b.E ++ _).getD k entZ).F, ((b.E ++ _).getD i.toNat entZ).U = true) ∧ ((b.E ++ _).getD k entZ).B = baseOf (b.E ++ _) ((b.E ++ _).getD k entZ).F ((b.E ++ _).getD k entZ).P ∧ ∀ x ∈ ((b.E ++ _).getD k entZ).B, x ∉ b.R
      rw [hget k hkl]
      refine ⟨fun i hif => ?_, ?_, g3⟩
      · rw [hget _ (by have := hf i hif; omega)]; exact g1 i hif
      · rw [g2]
        exact (baseOf_congr fun i hif => hat i (hf i hif).1 (by have := hf i hif; omega)).symm
    · have hk : k = b.E.length := by omega
      show (∀ i ∈ ((b.E ++ _).getD k entZ).F, ((b.E ++ _).getD i.toNat entZ).U = true) ∧ ((b.E ++ _).getD k entZ).B = baseOf (b.E ++ _) ((b.E ++ _).getD k entZ).F ((b.E ++ _).getD k entZ).P ∧ ∀ x ∈ ((b.E ++ _).getD k entZ).B, x ∉ b.R
      rw [hk, app_eq]
      refine ⟨fun i hif => ?_, ?_, fun x hx => ?_⟩
      · rw [hget _ (by have := hF i hif; omega)]; exact hus i hif
      · exact (baseOf_congr fun i hif => hat i (hF i hif).1 (hF i hif).2).symm
      · rcases mem_base.1 hx with hx | ⟨i, hif, hx⟩
        · unfold denied at h5
          have := List.any_eq_false.1 h5 x hx
          simpa using this
        · exact (hi.use i.toNat (by have := hF i hif; omega) (hus i hif)).2.2 x hx
theorem map_get {E : List Ent} {p : Int} (k : Nat) : (E.map (gone p)).getD k entZ = gone p (E.getD k entZ) := by
  rcases Nat.lt_or_ge k E.length with h | h
  · rw [List.getD_eq_getElem?_getD, List.getElem?_map, List.getD_eq_getElem?_getD, List.getElem?_eq_getElem h]; rfl
  · rw [List.getD_eq_getElem?_getD, List.getElem?_map, List.getD_eq_getElem?_getD, List.getElem?_eq_none h]
    show entZ = gone p entZ
    unfold gone
    rw [if_neg (by show ¬ p ∈ ([] : List Int); simp)]
theorem gone_fp (p : Int) (e : Ent) : (gone p e).F = e.F ∧ (gone p e).P = e.P ∧ (gone p e).B = e.B ∧ ((gone p e).U = true ↔ e.U = true ∧ p ∉ e.B) := by
  unfold gone
  split
  · rename_i h; simp [h]
  · rename_i h; simp [h]
theorem good_rm {b : Bk} (hb : BOk b) (p : Int) : BOk (rmB b p) := by
  unfold rmB
  split
  · rename_i h
    have hp : (0 ≤ p ∧ p < 65536) ∧ p ∉ b.R := by
      unfold rmE at h
      split at h
      · cases h
      · split at h
        · cases h
        · rename_i h1 h2; exact ⟨by omega, h2⟩
    refine ⟨by show (b.E.map _).length ≤ 256; rw [List.length_map]; exact hb.n, fun k hk => ?_, fun k hk => ?_, fun k hk => ?_, List.nodup_append.2 ⟨hb.r.1, by simp, fun x hx y hy e => hp.2 (by rw [List.mem_singleton.1 hy] at e; exact e ▸ hx)⟩, fun x hx => ?_⟩
    all_goals try
      have hk : k < b.E.length := by
        have hk : k < (b.E.map (gone p)).length := hk
        rwa [List.length_map] at hk
      show _ ∧ _
      rw [map_get]
    · rw [(gone_fp p _).1]; exact hb.f k hk
    · rw [(gone_fp p _).2.1]; exact hb.p k hk
    · rw [(gone_fp p _).2.2.1]; exact hb.q k hk
    · rcases List.mem_append.1 hx with hx | hx
      · exact hb.r.2 x hx
      · rw [List.mem_singleton.1 hx]; exact hp.1
  · exact hb
theorem inv_rm {b : Bk} {M : List (List Int × List Int)} (hi : Inv b M) {p : Int} (h : rmE b p = 0) : Inv (rmB b p) M := by
  have e : rmB b p = ⟨b.E.map (gone p), b.R ++ [p]⟩ := if_pos h
  rw [e]
  have hlen : (b.E.map (gone p)).length = b.E.length := List.length_map _
  have hat : ∀ i, baseAt (b.E.map (gone p)) i = baseAt b.E i := fun i => by unfold baseAt; rw [map_get]; exact (gone_fp p _).2.2.1
  refine ⟨by show M.length = (b.E.map (gone p)).length; rw [hlen]; exact hi.len, fun k hk => ?_, fun k hk hu => ?_⟩
  all_goals
    have hk : k < b.E.length := hlen ▸ hk
  · show ((b.E.map (gone p)).getD k entZ).F = _ ∧ kept (b.R ++ [p]) ((b.E.map (gone p)).getD k entZ).P = kept (b.R ++ [p]) _
    obtain ⟨g1, g2⟩ := hi.fp k hk
    rw [map_get, (gone_fp p _).1, (gone_fp p _).2.1, kept_snoc, kept_snoc, g2]
    exact ⟨g1, rfl⟩
  · have hu : ((b.E.map (gone p)).getD k entZ).U = true := hu
    rw [map_get] at hu
    obtain ⟨hu1, hu2⟩ := (gone_fp p _).2.2.2.1 hu
    obtain ⟨g1, g2, g3⟩ := hi.use k hk hu1
    show (∀ i ∈ ((b.E.map (gone p)).getD k entZ).F, ((b.E.map (gone p)).getD i.toNat entZ).U = true) ∧ ((b.E.map (gone p)).getD k entZ).B = baseOf (b.E.map (gone p)) ((b.E.map (gone p)).getD k entZ).F ((b.E.map (gone p)).getD k entZ).P ∧ ∀ x ∈ ((b.E.map (gone p)).getD k entZ).B, x ∉ b.R ++ [p]
    rw [map_get, (gone_fp p _).1, (gone_fp p _).2.1, (gone_fp p _).2.2.1]
    refine ⟨fun i hif => ?_, ?_, fun x hx hxr => ?_⟩
    · rw [map_get]
      refine (gone_fp p _).2.2.2.2 ⟨g1 i hif, fun hp => hu2 ?_⟩
      rw [g2]
      exact mem_base.2 (.inr ⟨i, hif, hp⟩)
    · rw [g2]
      exact (baseOf_congr fun i _ => hat i).symm
    · rcases List.mem_append.1 hxr with hxr | hxr
      · exact g3 x hx hxr
      · exact hu2 (List.mem_singleton.1 hxr ▸ hx)
theorem rnE_zero {b : Bk} {i : Int} (h : rnE b i = 0) : (0 ≤ i ∧ i < b.E.length) ∧ (b.E.getD i.toNat entZ).U = false ∧ stale b.E (b.E.getD i.toNat entZ).F = false := by
  unfold rnE at h
  split at h
  · cases h
  rename_i h1
  split at h
  · cases h
  rename_i h2
  split at h
  · cases h
  rename_i h3
  unfold badT at h1
  exact ⟨by omega, by simpa using h2, by simpa using h3⟩
theorem good_rn {b : Bk} (hb : BOk b) (i : Int) : BOk (rnB b i) := by
  unfold rnB
  split
  · rename_i h
    obtain ⟨h1, h2, h3⟩ := rnE_zero h
    have hin : i.toNat < b.E.length := by omega
    have hlen : (b.E.set i.toNat (renewed b (b.E.getD i.toNat entZ))).length = b.E.length := List.length_set
    have hK : ∀ x ∈ kept b.R (b.E.getD i.toNat entZ).P, 0 ≤ x ∧ x < 65536 := fun x hx => (hb.p _ hin).2.2 x (mem_kept.1 hx).1
    have hget : ∀ k, (b.E.set i.toNat (renewed b (b.E.getD i.toNat entZ))).getD k entZ = if k = i.toNat then renewed b (b.E.getD i.toNat entZ) else b.E.getD k entZ := fun k => by
      by_cases hk : k = i.toNat
      · rw [if_pos hk, hk, setE_get hin]
      · rw [if_neg hk, setE_ne hk]
    refine ⟨by show (b.E.set _ _).length ≤ 256; rw [hlen]; exact hb.n, fun k hk => ?_, fun k hk => ?_, fun k hk => ?_, hb.r⟩
    all_goals
      have hk : k < b.E.length := hlen ▸ hk
      show _ ∧ _
      rw [hget k]
    · split
      · rename_i e; rw [e]; exact hb.f _ hin
      · exact hb.f k hk
    · split
      · exact ⟨List.Pairwise.filter _ (hb.p _ hin).1, Nat.le_trans (List.length_filter_le _ _) (hb.p _ hin).2.1, hK⟩
      · exact hb.p k hk
    · split
      · exact ⟨uniq_inc _, baseOf_in hb hK⟩
      · exact hb.q k hk
  · exact hb
theorem inv_rn {b : Bk} {M : List (List Int × List Int)} (hb : BOk b) (hi : Inv b M) {i : Int} (h : rnE b i = 0) : Inv (rnB b i) M := by
  obtain ⟨h1, h2, h3⟩ := rnE_zero h
  have hin : i.toNat < b.E.length := by omega
  have e : rnB b i = ⟨b.E.set i.toNat (renewed b (b.E.getD i.toNat entZ)), b.R⟩ := if_pos h
  rw [e]
  have hus := any_false h3
  have hlen : (b.E.set i.toNat (renewed b (b.E.getD i.toNat entZ))).length = b.E.length := List.length_set
  have hf := (hb.f _ hin).2
  have hne : ∀ j ∈ (b.E.getD i.toNat entZ).F, j.toNat ≠ i.toNat := fun j hj => by have := hf j hj; omega
  have hat : ∀ j : Int, j.toNat ≠ i.toNat → baseAt (b.E.set i.toNat (renewed b (b.E.getD i.toNat entZ))) j = baseAt b.E j := fun j hj => by unfold baseAt; rw [setE_ne hj]
  refine ⟨by show M.length = (b.E.set _ _).length; rw [hlen]; exact hi.len, fun k hk => ?_, fun k hk hu => ?_⟩
  all_goals
    have hk : k < b.E.length := hlen ▸ hk
  · show ((b.E.set i.toNat _).getD k entZ).F = _ ∧ kept b.R ((b.E.set i.toNat _).getD k entZ).P = _
    by_cases hki : k = i.toNat
    · obtain ⟨g1, g2⟩ := hi.fp k hk
      rw [hki] at g1 g2 ⊢
      rw [setE_get hin]
      refine ⟨g1, ?_⟩
      rw [← g2]
      exact kept_self fun x hx => (mem_kept.1 hx).2
    · rw [setE_ne hki]; exact hi.fp k hk
  · show (∀ j ∈ ((b.E.set i.toNat _).getD k entZ).F, ((b.E.set i.toNat _).getD j.toNat entZ).U = true) ∧ ((b.E.set i.toNat _).getD k entZ).B = baseOf (b.E.set i.toNat _) ((b.E.set i.toNat _).getD k entZ).F ((b.E.set i.toNat _).getD k entZ).P ∧ ∀ x ∈ ((b.E.set i.toNat _).getD k entZ).B, x ∉ b.R
    by_cases hki : k = i.toNat
    · rw [hki, setE_get hin]
      refine ⟨fun j hj => ?_, ?_, fun x hx => ?_⟩
      · rw [setE_ne (hne j hj)]; exact hus j hj
      · exact (baseOf_congr fun j hj => hat j (hne j hj)).symm
      · rcases mem_base.1 hx with hx | ⟨j, hj, hx⟩
        · exact (mem_kept.1 hx).2
        · exact (hi.use j.toNat (by have := hf j hj; omega) (hus j hj)).2.2 x hx
    · have hu : ((b.E.set i.toNat (renewed b (b.E.getD i.toNat entZ))).getD k entZ).U = true := hu
      rw [setE_ne hki] at hu
      obtain ⟨g1, g2, g3⟩ := hi.use k hk hu
      have hnk : ∀ j ∈ (b.E.getD k entZ).F, j.toNat ≠ i.toNat := fun j hj ej => by
        have := g1 j hj
        rw [ej, h2] at this; cases this
      rw [setE_ne hki]
      refine ⟨fun j hj => ?_, ?_, g3⟩
      · rw [setE_ne (hnk j hj)]; exact g1 j hj
      · rw [g2]
        exact (baseOf_congr fun j hj => hat j (hnk j hj)).symm
end Go.Cs
