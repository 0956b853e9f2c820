
/- dioramalaw41.DiskKeepsWhatWasFlushed, the plain law. -/
import Derived.Test.YtnehadphaakepaaEd
set_option linter.unusedSimpArgs false
set_option linter.unusedVariables false
namespace Go.Proofs.Ytnehadphaakepaa
open Go.V Go.RowKit Go.L Go.Dk
theorem setB_get (n : Nat) : ∀ (l : List Int) (k : Nat) (B : List Bs) (P : PM), l.Nodup → (P.map (·.1)).Nodup → (∀ i ∈ l, 0 ≤ i ∧ i < n ∧ ∃ x, mFind P i = some x ∧ x.length = 64) → B.length = n → (∀ b ∈ B, b.length = 64) →
    ∀ j, j < n → (setB [] [] k l (B, P)).1.getD j [] = if (j : Int) ∈ l then (mFind P j).getD [] else B.getD j []
  | [], k, B, P, _, _, _, _, _, j, _ => by simp [setB]
  | i :: r, k, B, P, hnd, hP, hl, hB, hB64, j, hj => by
    obtain ⟨h0, h1, x, hx, hx64⟩ := hl i List.mem_cons_self
    rw [List.nodup_cons] at hnd
    have hb : (B.getD i.toNat []).length = 64 := hB64 _ (getD_mem (by omega))
    have ht : tear (upto (pickAt [] k)) ((mFind P i).getD []) (B.getD i.toNat []) = x := by
      rw [hx]
      unfold pickAt
      rw [if_neg (by simp)]
      show x.take 64 ++ (B.getD i.toNat []).drop 64 = x
      rw [List.take_of_length_le (by omega), List.drop_of_length_le (by omega), List.append_nil]
    have e : setB [] [] k (i :: r) (B, P) = setB [] [] (k + 1) r (B.set i.toNat x, mDel P i) := by
      rw [← ht]; rfl
    rw [e, setB_get n r (k + 1) (B.set i.toNat x) (mDel P i) hnd.2 (mDel_nodup hP) (fun q hq => ?_) (by rw [List.length_set]; exact hB) (fun b hb2 => ?_) j hj]
    · by_cases hji : (j : Int) = i
      · rw [if_neg (by rw [hji]; exact hnd.1), if_pos (by rw [hji]; exact List.mem_cons_self), hji, hx]
        have : i.toNat = j := by omega
        rw [this, getD_set (by omega)]; rfl
      · have hm : (j : Int) ∈ i :: r ↔ (j : Int) ∈ r := by simp [hji]
        rw [mFind_mDel hP, if_neg (show ¬ i = (j : Int) from fun e => hji e.symm), getD_set_ne (by omega)]
        simp only [hm]
    · obtain ⟨q0, q1, y, hy, hy64⟩ := hl q (List.mem_cons_of_mem _ hq)
      refine ⟨q0, q1, y, ?_, hy64⟩
      rw [mFind_mDel hP, if_neg (show ¬ i = q from fun e => hnd.1 (by rw [e]; exact hq))]; exact hy
    · rcases List.mem_or_eq_of_mem_set hb2 with hb2 | hb2
      · exact hB64 b hb2
      · rw [hb2]; exact hx64
/-- What a sector contains for a reader. -/
def cur (B : List Bs) (P : PM) (j : Nat) : Bs := (mFind P (j : Int)).getD (B.getD j [])
variable {n : Nat} {B : List Bs} {P : PM} {left : Int}
theorem allB_get (h : Good n B P [] left) {j : Nat} (hj : j < n) : (allB [] B P []).1.getD j [] = cur B P j := by
  have hp := sortI_perm (P.map (·.1))
  have := setB_get n (sortI (P.map (·.1))) 0 B P (hp.nodup_iff.2 h.pnd) h.pnd (fun i hi => by
    have hi := hp.mem_iff.1 hi
    obtain ⟨x, hx⟩ := mFind_some_of hi
    have h1 := h.pin _ (mFind_mem hx)
    exact ⟨h1.1, h1.2, x, hx, h.p64 _ (mFind_mem hx)⟩) h.len h.b64 j hj
  unfold allB cur
  rw [this]
  by_cases hm : (j : Int) ∈ P.map (·.1)
  · rw [if_pos (hp.mem_iff.2 hm)]
    obtain ⟨x, hx⟩ := mFind_some_of hm
    rw [hx]; rfl
  · rw [if_neg (fun e => hm (hp.mem_iff.1 e)), mFind_none.2 hm]; rfl
def kSkip (o : DOp) : Prop := o.K = 6 ∨ o.K = 7 ∨ o.K = 4 ∨ o.K = 5
instance (o : DOp) : Decidable (kSkip o) := by unfold kSkip; infer_instance
def kDo (n : Nat) (s : Disk × List Bs) (o : DOp) : Disk × List Bs :=
  if kSkip o then s else (doD n s.1 o, if o.K = 1 ∧ doE n s.1 o = 0 then s.2.set o.I.toNat (textS o.T) else s.2)
structure KI' (n : Nat) (s : Disk × List Bs) : Prop where
  good : GoodD n s.1
  w : s.1.W = []
  off : s.1.off = false
  left : s.1.left = -1
  len : s.2.length = n
  eq : ∀ j, j < n → s.2.getD j [] = cur s.1.B s.1.P j
theorem ki_do {s : Disk × List Bs} (h : KI' n s) {o : DOp} (ho : DOpOk o) : KI' n (kDo n s o) := by
  unfold kDo
  by_cases hs : kSkip o
  · rw [if_pos hs]; exact h
  · rw [if_neg hs]
    have hg := good_do h.good ho
    obtain ⟨⟨B, P, W, off, left⟩, L⟩ := s
    obtain ⟨h1, h2, h3, h4, h5, h6⟩ := h
    simp only at h2 h3 h4 h5 h6
    subst h2; subst h3; subst h4
    have h1 : Good n B P [] (-1) := h1
    obtain ⟨K, I, Bit, T, Pk⟩ := o
    unfold kSkip at hs
    simp only at hs
    by_cases k1 : K = 1
    · subst k1
      have hE : ∀ e, doE n ⟨B, P, [], false, -1⟩ ⟨1, I, Bit, T, Pk⟩ = e → wrE n false (-1) I (textS T) = e := fun e h => h
      have hD : doD n ⟨B, P, [], false, -1⟩ ⟨1, I, Bit, T, Pk⟩ = ⟨B, if wrE n false (-1) I (textS T) = 0 then mSet P I (textS T) else P, [], false, -1⟩ := by
        show (⟨B, if wrE n false (-1) I (textS T) = 0 then mSet P I (textS T) else P, [], if wrGo n false I (textS T) = true then stpO false (-1) else false, if wrGo n false I (textS T) = true then stpL (-1) else -1⟩ : Disk) = _
        rw [show stpO false (-1) = false from rfl, show stpL (-1) = -1 from rfl, ite_self, ite_self]
      refine ⟨hg, by rw [hD], by rw [hD], by rw [hD], ?_, fun j hj => ?_⟩
      · show (if _ then _ else _ : List Bs).length = n
        split
        · rw [List.length_set]; exact h5
        · exact h5
      · show (if (1 : Int) = 1 ∧ wrE n false (-1) I (textS T) = 0 then L.set I.toNat (textS T) else L).getD j [] = cur (doD n ⟨B, P, [], false, -1⟩ ⟨1, I, Bit, T, Pk⟩).B (doD n ⟨B, P, [], false, -1⟩ ⟨1, I, Bit, T, Pk⟩).P j
        rw [hD]
        by_cases he : wrE n false (-1) I (textS T) = 0
        · rw [if_pos ⟨rfl, he⟩]
          show _ = cur B (if wrE n false (-1) I (textS T) = 0 then mSet P I (textS T) else P) j
          rw [if_pos he]
          have hc : chk n false I = 0 := by
            unfold wrE at he
            by_cases hc : chk n false I = 0
            · exact hc
            · rw [if_pos hc] at he; exact absurd he hc
          obtain ⟨_, hb⟩ := chk_zero hc
          unfold cur
          rw [mFind_mSet]
          by_cases hj2 : I = (j : Int)
          · rw [if_pos hj2, show I.toNat = j by omega, getD_set (by omega)]; rfl
          · rw [if_neg hj2, getD_set_ne (by omega)]; exact h6 j hj
        · rw [if_neg (fun h => he h.2)]
          show _ = cur B (if wrE n false (-1) I (textS T) = 0 then mSet P I (textS T) else P) j
          rw [if_neg he]; exact h6 j hj
    · have hL : (if K = 1 ∧ doE n ⟨B, P, [], false, -1⟩ ⟨K, I, Bit, T, Pk⟩ = 0 then L.set I.toNat (textS T) else L) = L := if_neg fun h => k1 h.1
      show KI' n (doD n ⟨B, P, [], false, -1⟩ ⟨K, I, Bit, T, Pk⟩, if K = 1 ∧ doE n ⟨B, P, [], false, -1⟩ ⟨K, I, Bit, T, Pk⟩ = 0 then L.set I.toNat (textS T) else L)
      rw [hL]
      by_cases k3 : K = 3
      · subst k3
        have hD : doD n ⟨B, P, [], false, -1⟩ ⟨3, I, Bit, T, Pk⟩ = ⟨(allB [] B P []).1, (allB [] B P []).2, [], false, -1⟩ := rfl
        refine ⟨hg, by rw [hD], by rw [hD], by rw [hD], h5, fun j hj => ?_⟩
        rw [hD]
        show L.getD j [] = cur (allB [] B P []).1 (allB [] B P []).2 j
        rw [allB_nil h1, h6 j hj]
        unfold cur
        show _ = (allB [] B P []).1.getD j []
        rw [allB_get h1 hj]; rfl
      · have hD : doD n ⟨B, P, [], false, -1⟩ ⟨K, I, Bit, T, Pk⟩ = ⟨B, P, [], false, -1⟩ := by
          have k4 : K ≠ 4 := fun e => hs (by simp [e])
          have k5 : K ≠ 5 := fun e => hs (by simp [e])
          have k6 : K ≠ 6 := fun e => hs (by simp [e])
          have k7 : K ≠ 7 := fun e => hs (by simp [e])
          simp only [doD, k1, k3, k4, k5, k6, k7, if_false, ite_self]
        rw [hD] at hg ⊢
        exact ⟨hg, rfl, rfl, rfl, h5, h6⟩
def kRun (n : Nat) (s : Disk × List Bs) (l : List DOp) : Disk × List Bs := l.foldl (kDo n) s
theorem ki_run {l : List DOp} (ho : ∀ o ∈ l, DOpOk o) : ∀ {s : Disk × List Bs}, KI' n s → KI' n (kRun n s l) := by
  induction l with
  | nil => exact fun h => h
  | cons o r ih => exact fun h => ih (fun x hx => ho x (List.mem_cons_of_mem _ hx)) (ki_do h (ho o List.mem_cons_self))
theorem krun_succ {s : Disk × List Bs} {l : List DOp} {k : Nat} (hk : k < l.length) : kRun n s (l.take (k + 1)) = kDo n (kRun n s (l.take k)) (l.getD k zDOp) := by
  have e : l.take (k + 1) = l.take k ++ [l.getD k zDOp] := by
    rw [List.take_add_one, List.getD_eq_getElem?_getD, List.getElem?_eq_getElem hk]; rfl
  unfold kRun
  rw [e, List.foldl_append]; rfl
theorem ki_new (h0 : 0 < n) (h1 : n ≤ 4096) : KI' n (newD n, List.replicate n zs) :=
  ⟨good_new h0 h1, rfl, rfl, rfl, List.length_replicate, fun j hj => rfl⟩
/-- Behind the last flush the blocks are what was written. -/
theorem ki_end {L : List Bs} (h : KI' n (⟨B, P, [], false, -1⟩, L)) : (allB [] B P []).1 = L := by
  have hg : Good n B P [] (-1) := h.good
  have hl := (good_allB hg [] (l2 := -1) m1_64).len
  refine List.ext_getElem (by rw [hl]; exact h.len.symm) fun j h1 h2 => ?_
  have e := allB_get hg (j := j) (by omega)
  have e2 := h.eq j (by omega)
  rw [List.getD_eq_getElem?_getD, List.getElem?_eq_getElem h1, Option.getD_some] at e
  rw [List.getD_eq_getElem?_getD, List.getElem?_eq_getElem h2, Option.getD_some] at e2
  rw [e, e2]
end Go.Proofs.Ytnehadphaakepaa
