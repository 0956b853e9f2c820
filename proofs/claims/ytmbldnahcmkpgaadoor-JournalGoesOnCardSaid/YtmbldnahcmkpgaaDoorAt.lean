/- Journals, plain: the journal of records in a row. strings.Repeat as a contract. -/
import Derived.Test.YtmbldnahcmkpgaaDoorAr
import Derived.Test.YtmbldnahcmkpgaaDoorSr
set_option linter.unusedSimpArgs false
set_option linter.unusedVariables false
namespace Go.Proofs.YtmbldnahcmkpgaaDoor
open Go.V Go.RowKit Go.L Go.Lx Go.Jn Go.Dk
set_option maxRecDepth 20000
theorem unp_zs : unp zs = noPart := unp_no fun h => by
  have h1 := h.n1
  have : secNum zs = 0 := by decide
  omega
theorem blank_zs : isBlank zs := by
  intro i _
  exact zs_get i
theorem nextOf_ge (L : List Bs) : ∀ k i, i < k → ((unp (L.getD i [])).num : Int) + 1 ≤ nextOf L k
  | 0, i, h => absurd h (Nat.not_lt_zero _)
  | k + 1, i, h => by
    rw [nextOf]
    by_cases e : i = k
    · subst e; omega
    · have := nextOf_ge L k i (by omega); omega
theorem nextOf_le' (L : List Bs) (m : Nat) : ∀ k, (∀ i, i < k → (unp (L.getD i [])).num ≤ m) → nextOf L k ≤ (m : Int) + 1
  | 0, _ => by rw [nextOf]; omega
  | k + 1, h => by
    have h1 := nextOf_le' L m k fun i hi => h i (by omega)
    have h2 := h k (by omega)
    rw [nextOf]; omega
theorem bads_nil (L : List Bs) : ∀ k, (∀ i, i < k → (unp (L.getD i [])).ok = true ∨ isBlank (L.getD i [])) → bads L k = []
  | 0, _ => rfl
  | k + 1, h => by
    rw [bads, bads_nil L k fun i hi => h i (by omega), if_neg]
    rintro ⟨h1, h2⟩
    rcases h k (by omega) with h3 | h3
    · rw [h1] at h3; cases h3
    · exact h2 h3
theorem stopAt_down (L : List Bs) (j : Nat) : ∀ k, (∀ i, j ≤ i → i < j + k → isBlank (L.getD i [])) → stopAt L (j + k) = stopAt L j
  | 0, _ => rfl
  | k + 1, h => by
    show stopAt L ((j + k) + 1) = _
    rw [stopAt, if_pos (h (j + k) (by omega) (by omega))]
    exact stopAt_down L j k fun i h1 h2 => h i h1 (by omega)
theorem stopAt_full (L : List Bs) (j : Nat) (h : ∀ i, i < j → ¬ isBlank (L.getD i [])) : stopAt L j = j := by
  cases j with
  | zero => rfl
  | succ j => rw [stopAt, if_neg (h j (by omega))]
theorem app_l {X Y : List Bs} {i : Nat} (h : i < X.length) : (X ++ Y).getD i [] = X.getD i [] := app_lt h
theorem app_r {X Y : List Bs} {i : Nat} (h : X.length ≤ i) : (X ++ Y).getD i [] = Y.getD (i - X.length) [] := by
  rw [List.getD_eq_getElem?_getD, List.getElem?_append_right h, ← List.getD_eq_getElem?_getD]
theorem allX_mem : ∀ (T : List Bs) (k : Nat) (s : Bs), s ∈ allX k T → ∃ j q, j < T.length ∧ q < cnt (T.getD j []).length ∧ s = (parts (k + j) (T.getD j [])).getD q []
  | [], k, s, h => by cases h
  | t :: r, k, s, h => by
    rcases List.mem_append.1 h with h | h
    · obtain ⟨q, hq, e⟩ := List.mem_iff_getElem.1 h
      rw [parts_len] at hq
      refine ⟨0, q, by rw [List.length_cons]; omega, hq, ?_⟩
      show s = (parts (k + 0) t).getD q []
      rw [Nat.add_zero, List.getD_eq_getElem?_getD, List.getElem?_eq_getElem (by rw [parts_len]; exact hq)]
      exact e.symm
    · obtain ⟨j, q, h1, h2, h3⟩ := allX_mem r (k + 1) s h
      refine ⟨j + 1, q, by rw [List.length_cons]; omega, h2, ?_⟩
      rw [h3, show k + 1 + j = k + (j + 1) by omega]; rfl
/-- Each sector of records in a row is good, has a number of theirs, and is not blank. -/
theorem allX_fine {T : List Bs} {k : Nat} (h1 : 1 ≤ k) (h2 : k + T.length ≤ 4097) (h3 : ∀ t ∈ T, t.length ≤ 8000) {s : Bs} (hs : s ∈ allX k T) : (unp s).ok = true ∧ k ≤ (unp s).num ∧ (unp s).num < k + T.length ∧ ¬ isBlank s ∧ s.length = 64 := by
  obtain ⟨j, q, q1, q2, q3⟩ := allX_mem T k s hs
  have ht : (T.getD j []).length ≤ 8000 := h3 _ (Go.Lx.getD_mem q1)
  have hu := unp_parts (n := k + j) (by omega) (by omega) ht q2
  rw [← q3] at hu
  rw [hu]
  refine ⟨rfl, by show k ≤ k + j; omega, by show k + j < _; omega, ?_, ?_⟩
  · rw [q3, parts_get q2]
    exact not_blank_sec (by omega) (by omega)
  · rw [q3, parts_get q2]
    exact sec_len _ _ _
theorem allX_last : ∀ (T : List Bs) (k : Nat), T ≠ [] → 1 ≤ k → k + T.length ≤ 4097 → (∀ t ∈ T, t.length ≤ 8000) → ∃ s ∈ allX k T, (unp s).num + 1 = k + T.length
  | [], k, h, _, _, _ => absurd rfl h
  | [t], k, _, h1, h2, h3 => by
    have ht := h3 t List.mem_cons_self
    have hc : 0 < cnt t.length := cnt_pos (by omega) (by omega)
    refine ⟨(parts k t).getD 0 [], List.mem_append_left _ (Go.Lx.getD_mem (by rw [parts_len]; exact hc)), ?_⟩
    rw [unp_parts h1 (by rw [List.length_singleton] at h2; omega) ht hc]; rfl
  | t :: u :: r, k, _, h1, h2, h3 => by
    obtain ⟨s, hs, e⟩ := allX_last (u :: r) (k + 1) (by simp) (by omega) (by rw [List.length_cons] at h2; omega) (fun t ht => h3 t (List.mem_cons_of_mem _ ht))
    refine ⟨s, List.mem_append_right _ hs, ?_⟩
    rw [e, List.length_cons]
    rw [List.length_cons, List.length_cons]; omega
theorem opn_X {T : List Bs} {z : Nat} (hT : T.length ≤ 4096) (h3 : ∀ t ∈ T, t.length ≤ 8000) : opn (allX 1 T ++ List.replicate z zs) = ⟨allR 1 T, [], (T.length : Int) + 1, (allX 1 T).length, false⟩ := by
  have hf := fun s hs => allX_fine (T := T) (k := 1) (by omega) (by omega) h3 (s := s) hs
  generalize hL : allX 1 T ++ List.replicate z zs = L
  have hlen : L.length = (allX 1 T).length + z := by rw [← hL]; simp
  have hget : ∀ i, i < (allX 1 T).length → L.getD i [] ∈ allX 1 T := fun i hi => by
    rw [← hL, app_l hi]; exact Go.Lx.getD_mem hi
  have hgz : ∀ i, (allX 1 T).length ≤ i → i < L.length → L.getD i [] = zs := fun i h1 h2 => by
    rw [← hL, app_r h1, List.getD_eq_getElem?_getD, List.getElem?_replicate, if_pos (by omega)]; rfl
  have hR : scan 0 (L.map unp) [] = allR 1 T := by
    rw [← hL, List.map_append, scan_all T 1 _ [] (by omega) (by omega) h3 (fun i hi => by cases hi), List.nil_append, scan_none]
    intro i hi
    rw [List.length_map, List.length_replicate] at hi
    rw [List.getD_eq_getElem?_getD, List.getElem?_map, List.getElem?_replicate, if_pos hi]
    show (unp zs).ok = false
    rw [unp_zs]; rfl
  have hB : bads L L.length = [] := bads_nil L _ fun i hi => by
    rcases Nat.lt_or_ge i (allX 1 T).length with h | h
    · exact .inl (hf _ (hget i h)).1
    · exact .inr (by rw [hgz i h hi]; exact blank_zs)
  have hS : stopAt L L.length = (allX 1 T).length := by
    rw [hlen, stopAt_down L _ z fun i h1 h2 => by rw [hgz i h1 (by omega)]; exact blank_zs]
    exact stopAt_full L _ fun i hi => (hf _ (hget i hi)).2.2.2.1
  have hN : nextOf L L.length = (T.length : Int) + 1 := by
    have h1 : nextOf L L.length ≤ (T.length : Int) + 1 := nextOf_le' L T.length _ fun i hi => by
      rcases Nat.lt_or_ge i (allX 1 T).length with h | h
      · have := (hf _ (hget i h)).2.2.1; omega
      · rw [hgz i h hi, unp_zs]; exact Nat.zero_le _
    by_cases hT0 : T = []
    · have := (nextOf_le L L.length).1
      rw [hT0] at h1 ⊢
      simp only [List.length_nil] at h1 ⊢
      omega
    · obtain ⟨s, hs, e⟩ := allX_last T 1 hT0 (by omega) (by omega) h3
      obtain ⟨i, hi, e2⟩ := List.mem_iff_getElem.1 hs
      have h2 := nextOf_ge L L.length i (by omega)
      have : L.getD i [] = s := by rw [← hL, app_l hi, List.getD_eq_getElem?_getD, List.getElem?_eq_getElem hi]; exact e2
      rw [this] at h2
      omega
  unfold opn
  rw [hR, hB, hS, hN]
theorem opn_blank (z : Nat) : opn (List.replicate z zs) = ⟨[], [], 1, 0, false⟩ := by
  have := opn_X (T := []) (z := z) (by decide) (fun t h => by cases h)
  exact this
end Go.Proofs.YtmbldnahcmkpgaaDoor

namespace Go.Proofs.YtmbldnahcmkpgaaDoor
open Go.V Go.RowKit Go.L Go.Lx Go.Jn Go.Dk
theorem repExtra : Builder.Extra Tryd.prog rep105_ren where
  sizeBuilder := by kernel_rfl
  liesBuilder := by kernel_rfl
  t5 := rep105.t5
  a5 := rep105.a5
  z5 := rep105.z5
  v5 := rep105.v5
  infoByte := by kernel_rfl
  cellsByte := by kernel_rfl
  sizeByte := by kernel_rfl
  neB5 := by decide
theorem repeat_ok (s : Bs) (c : Nat) (hc : c ≤ 9223372036854775807) (hl : s.length * c ≤ 140737488355328) : Ok Tryd.prog 23 [] [] (.pair (.str s) (.pair (.int .i64 (c : Nat)) .nul)) (fun r h' => r = .str (Lib.repeatL s c) ∧ h' = []) :=
  Ok.of_calls fun c0 vs hc0 hB hg hvs => by
    obtain ⟨x, y, rfl, h1, h2⟩ := hvs
    have h1 : [x] = [_] := h1
    cases h1
    obtain ⟨x2, y2, rfl, h3, h4⟩ := h2
    have h3 : [x2] = [_] := h3
    have h4 : y2 = [] := h4
    subst h4
    cases h3
    have hz : (⟨s.toArray⟩ : ByteArray).size = s.length := by show s.toArray.size = _; simp
    refine (Any.strings_Repeat rep105 repExtra ⟨s.toArray⟩ c c0.w hc (by rw [hz]; exact hl)).mono fun e w' h => ?_
    obtain ⟨rfl, hb⟩ := h
    exact ⟨hb, _, _, rfl, ⟨rfl, rfl⟩, by simp [Rep]⟩
end Go.Proofs.YtmbldnahcmkpgaaDoor
