/- The program's disks and the reference's: how they correspond. The program's disks and the reference's: operation by operation. slices.Sort over an own slice of numbers: the kit's contract as one over abstract values. Books of consent: the plain law. Books of consent: lists. -/
import Derived.Test.YtmbldnahcmkpgaaDoorEl
import Derived.Test.YtmbldnahcmkpgaaDoorSg
import Derived.Test.YtmbldnahcmkpgaaDoorGb
import Derived.Test.YtmbldnahcmkpgaaDoorFp
import Derived.Test.YtmbldnahcmkpgaaDoorDb
import Derived.Test.YtmbldnahcmkpgaaDoorDc
set_option linter.unusedSimpArgs false
set_option linter.unusedVariables false
namespace Go.Proofs.YtmbldnahcmkpgaaDoor
open Go.V Go.RowKit Go.L Go.Dk
def secAt (B : List Bs) (P : PM) (W : WM) (i : Nat) : Sec := ⟨B.getD i [], (mFind P (i : Int)).getD [], (mFind P (i : Int)).isSome, isW W i⟩
def secs (n : Nat) (B : List Bs) (P : PM) (W : WM) : List Sec := (List.range n).map (secAt B P W)
variable {n : Nat} {B : List Bs} {P : PM} {W : WM}
theorem secs_len : (secs n B P W).length = n := by unfold secs; rw [List.length_map, List.length_range]
theorem secs_get {i : Nat} (h : i < n) : (secs n B P W).getD i secZ = secAt B P W i := by
  unfold secs
  rw [List.getD_eq_getElem?_getD, List.getElem?_map, List.getElem?_range h]; rfl
theorem secs_elem {j : Nat} (h : j < (secs n B P W).length) : (secs n B P W)[j] = secAt B P W j := by simp [secs]
theorem secs_set {i : Nat} {B' : List Bs} {P' : PM} {W' : WM} {x : Sec} (hx : x = secAt B' P' W' i) (h : ∀ j, j < n → j ≠ i → secAt B' P' W' j = secAt B P W j) : (secs n B P W).set i x = secs n B' P' W' := by
  subst hx
  refine List.ext_getElem (by rw [List.length_set, secs_len, secs_len]) fun j h1 h2 => ?_
  rw [secs_len] at h2
  rw [List.getElem_set]
  rw [secs_elem, secs_elem]
  by_cases e : i = j
  · rw [if_pos e, e]
  · rw [if_neg e]; exact (h j h2 fun e' => e e'.symm).symm
theorem rmt_secs (picks : List Int) (hB : B.length = n) (hP : (P.map (·.1)).Nodup) : ∀ k, k ≤ n →
    rmt picks k (secs n B P W) = (secs n (setB W picks 0 (picked (fun i => (mFind P (i : Int)).isSome) k) (B, P)).1 (setB W picks 0 (picked (fun i => (mFind P (i : Int)).isSome) k) (B, P)).2 W, (picked (fun i => (mFind P (i : Int)).isSome) k).length) ∧
    (setB W picks 0 (picked (fun i => (mFind P (i : Int)).isSome) k) (B, P)).1.length = n ∧ ((setB W picks 0 (picked (fun i => (mFind P (i : Int)).isSome) k) (B, P)).2.map (·.1)).Nodup ∧
    ∀ j : Nat, k ≤ j → mFind (setB W picks 0 (picked (fun i => (mFind P (i : Int)).isSome) k) (B, P)).2 (j : Int) = mFind P (j : Int)
  | 0, _ => ⟨rfl, hB, hP, fun _ _ => rfl⟩
  | k + 1, hk => by
    obtain ⟨h1, h2, h3, h4⟩ := rmt_secs picks hB hP k (by omega)
    have hps : picked (fun i => (mFind P (i : Int)).isSome) (k + 1) = if (mFind P (k : Int)).isSome = true then picked (fun i => (mFind P (i : Int)).isSome) k ++ [(k : Int)] else picked (fun i => (mFind P (i : Int)).isSome) k := rfl
    have hr : rmt picks (k + 1) (secs n B P W) = if ((rmt picks k (secs n B P W)).1.getD k secZ).D = true then ((rmt picks k (secs n B P W)).1.set k (setl ((rmt picks k (secs n B P W)).1.getD k secZ) (upto (pickAt picks (rmt picks k (secs n B P W)).2))), (rmt picks k (secs n B P W)).2 + 1) else rmt picks k (secs n B P W) := rfl
    have hsb := setB_append W picks (picked (fun i => (mFind P (i : Int)).isSome) k) (k : Int) 0 (B, P)
    have hk4 := h4 k (Nat.le_refl _)
    rw [hr, hps, h1]
    generalize picked (fun i => (mFind P (i : Int)).isSome) k = L at *
    generalize hS : setB W picks 0 L (B, P) = S at *
    have hD : ((secs n S.1 S.2 W).getD k secZ).D = (mFind P (k : Int)).isSome := by
      rw [secs_get (by omega), ← hk4]; rfl
    simp only [hD]
    by_cases hm : (mFind P (k : Int)).isSome = true
    · rw [if_pos hm, if_pos hm, hsb, Nat.zero_add]
      have e : setB W picks L.length [(k : Int)] S = (if isW W (k : Int) = true then S.1 else S.1.set k (tear (upto (pickAt picks L.length)) ((mFind S.2 (k : Int)).getD []) (S.1.getD k [])), mDel S.2 (k : Int)) := rfl
      rw [e]
      have hfd : ∀ j : Nat, mFind (mDel S.2 (k : Int)) (j : Int) = if k = j then none else mFind S.2 (j : Int) := fun j => by
        rw [mFind_mDel h3]
        by_cases e : k = j
        · rw [if_pos e, if_pos (by omega)]
        · rw [if_neg e, if_neg (by omega)]
      refine ⟨?_, ?_, mDel_nodup h3, fun j hj => ?_⟩
      · refine Prod.ext ?_ (by simp)
        refine secs_set ?_ fun j hj hjk => ?_
        · rw [secs_get (by omega)]
          unfold setl secAt
          simp only [hfd, if_true]
          by_cases hw : isW W (k : Int) = true
          · simp [hw]
          · simp only [hw, if_false, Bool.false_eq_true]
            rw [getD_set (by omega)]; rfl
        · have hfj := hfd j
          rw [if_neg (fun e => hjk e.symm)] at hfj
          unfold secAt
          rw [hfj]
          by_cases hw : isW W (k : Int) = true
          · simp only [hw, if_true]
          · simp only [hw, if_false, Bool.false_eq_true]
            rw [getD_set_ne hjk]
      · show (if isW W (k : Int) = true then S.1 else _ : List Bs).length = n
        split
        · exact h2
        · rw [List.length_set]; exact h2
      · show mFind (mDel S.2 (k : Int)) (j : Int) = _
        rw [hfd, if_neg (by omega)]; exact h4 j (by omega)
    · rw [if_neg hm, if_neg hm, hS]
      exact ⟨rfl, h2, h3, fun j hj => h4 j (by omega)⟩
end Go.Proofs.YtmbldnahcmkpgaaDoor

namespace Go.Proofs.YtmbldnahcmkpgaaDoor
open Go.V Go.RowKit Go.L Go.Dk
variable {n : Nat} {B : List Bs} {P : PM} {W : WM} {off : Bool} {left : Int}
theorem keys_iff (h : Good n B P W left) (x : Int) : x ∈ P.map (·.1) ↔ 0 ≤ x ∧ x < n ∧ (mFind P ((x.toNat : Nat) : Int)).isSome = true := by
  constructor
  · intro hx
    obtain ⟨v, hv⟩ := mFind_some_of hx
    have h1 := h.pin _ (mFind_mem hv)
    refine ⟨h1.1, h1.2, ?_⟩
    rw [Int.toNat_of_nonneg h1.1, hv]; rfl
  · rintro ⟨h0, _, h2⟩
    rw [Int.toNat_of_nonneg h0] at h2
    cases hf : mFind P x with
    | none => rw [hf] at h2; cases h2
    | some v => exact List.mem_map.2 ⟨_, mFind_mem hf, rfl⟩
theorem pend_picked (h : Good n B P W left) : sortI (P.map (·.1)) = picked (fun i => (mFind P (i : Int)).isSome) n :=
  sortI_picked _ n h.pnd (keys_iff h)
theorem mount_secs (h : Good n B P W left) (picks : List Int) : (rmt picks n (secs n B P W)).1 = secs n (allB picks B P W).1 (allB picks B P W).2 W := by
  have := (rmt_secs (W := W) picks h.len h.pnd n (Nat.le_refl _)).1
  rw [this]
  unfold allB
  rw [pend_picked h]
end Go.Proofs.YtmbldnahcmkpgaaDoor

namespace Go.V
open Go.RowKit Go.L Go.Maps Go.Proofs Go.Shelf Go.Sort
abbrev intO (l : List Int) : AV := .arr l.length 1 (fun i => .int .i64 (l.getD i 0))
def srt (l : List Int) : List Int := l.mergeSort fun x y => decide (x ≤ y)
end Go.V

namespace Go.Cs
open Go.V
theorem drop_step {l : List Int} {k : Nat} (h : k < l.length) : l.drop k = l.getD k 0 :: l.drop (k + 1) := by
  rw [List.drop_eq_getElem_cons h, List.getD_eq_getElem?_getD, List.getElem?_eq_getElem h]; rfl
/-- Where the first element is for which a test holds; -1: nowhere. -/
def idxP (q : Int → Bool) (k : Nat) : List Int → Int
  | [] => -1
  | v :: r => if q v = true then (k : Int) else idxP q (k + 1) r
theorem idxP_step {q : Int → Bool} {l : List Int} {k : Nat} (h : k < l.length) : idxP q k (l.drop k) = if q (l.getD k 0) = true then (k : Int) else idxP q (k + 1) (l.drop (k + 1)) := by
  rw [drop_step h, idxP]
theorem idxP_any {q : Int → Bool} : ∀ {l : List Int} {k : Nat}, decide (0 ≤ idxP q k l) = l.any q
  | [], k => by rw [idxP]; rfl
  | v :: r, k => by
    rw [idxP, List.any_cons]
    cases hq : q v with
    | true => simp
    | false => simpa using idxP_any (q := q) (l := r) (k := k + 1)
theorem any_eq {l : List Int} {x : Int} : (l.any fun v => decide (x = v)) = decide (x ∈ l) := by
  induction l with
  | nil => simp
  | cons v r ih => rw [List.any_cons, ih]; by_cases h : x = v <;> simp [h]
/-- A list without what is the same as the element before. -/
def cmpct : List Int → List Int
  | [] => []
  | [a] => [a]
  | a :: b :: r => if a = b then cmpct (b :: r) else a :: cmpct (b :: r)
/-- The elements in increasing order, each once. -/
def uniq (l : List Int) : List Int := cmpct (srt l)
/-- A thing of a book. -/
structure Ent where
  F : List Int
  P : List Int
  B : List Int
  U : Bool
def entZ : Ent := ⟨[], [], [], false⟩
structure Bk where
  E : List Ent
  R : List Int
def badT (b : Bk) (i : Int) : Prop := i < 0 ∨ (b.E.length : Int) ≤ i
instance (b : Bk) (i : Int) : Decidable (badT b i) := by unfold badT; infer_instance
/-- What books are always. -/
structure BOk (b : Bk) : Prop where
  n : b.E.length ≤ 256
  f : ∀ k, k < b.E.length → (b.E.getD k entZ).F.Pairwise (· < ·) ∧ ∀ i ∈ (b.E.getD k entZ).F, 0 ≤ i ∧ i < k
  p : ∀ k, k < b.E.length → (b.E.getD k entZ).P.Pairwise (· < ·) ∧ (b.E.getD k entZ).P.length ≤ 512 ∧ ∀ x ∈ (b.E.getD k entZ).P, 0 ≤ x ∧ x < 65536
  q : ∀ k, k < b.E.length → (b.E.getD k entZ).B.Pairwise (· < ·) ∧ ∀ x ∈ (b.E.getD k entZ).B, 0 ≤ x ∧ x < 65536
  r : b.R.Nodup ∧ ∀ x ∈ b.R, 0 ≤ x ∧ x < 65536
end Go.Cs
namespace Go.Cs
theorem take_snoc {l : List Int} {k : Nat} (h : k < l.length) : l.take (k + 1) = l.take k ++ [l.getD k 0] := by
  rw [List.take_add_one, List.getD_eq_getElem?_getD, List.getElem?_eq_getElem h]; rfl
theorem app_lt {α : Type} {l m : List α} {d : α} {i : Nat} (h : i < l.length) : (l ++ m).getD i d = l.getD i d := by
  rw [List.getD_eq_getElem?_getD, List.getD_eq_getElem?_getD, List.getElem?_append_left h]
theorem app_eq {α : Type} {l : List α} {x d : α} : (l ++ [x]).getD l.length d = x := by
  rw [List.getD_eq_getElem?_getD, List.getElem?_append_right (Nat.le_refl _), Nat.sub_self]; rfl
theorem set_get {A : List Int} {K : Nat} {v : Int} (h : K < A.length) : (A.set K v).getD K 0 = v := by
  rw [List.getD_eq_getElem?_getD, List.getElem?_set, if_pos rfl, if_pos h]; rfl
end Go.Cs
namespace Go.Cs
end Go.Cs

namespace Go.Proofs.YtmbldnahcmkpgaaDoor
open Go.V Go.RowKit Go.L Go.Cs Go.Dk
abbrev intsV (l : List Int) : AV := .rsl false l.length 1 (fun i => .int .i64 (l.getD i 0))
set_option maxRecDepth 10000
set_option maxHeartbeats 1000000
theorem cloneI_ok (l : List Int) (hl : l.length ≤ 1048576) : Ok Tryd.prog 37 [] [] (.pair (intsV l) .nul) (fun r h' => r = .sl 0 [] 1 0 l.length ∧ h' = [(0, intO l)]) := by
  refine Ok.of_vcC tt_ok Tryd.func37 rfl rfl (by show 1 ≤ _; decide) 0 (hlt_ok (by rfl)) fun c0 => ?_
  repeat' (first | (refine SS_ ?_) | (refine Seq.slnilx tt_ok (by rfl) (by rfl) (by rfl) (by rfl) (by rfl) (by rfl) (by rfl) (fun hz => ?_) ?_) | (refine VC.litT (by rfl) LTR_ ?_) | (refine VC.litF (by rfl) LFA_ ?_) | fail)
  · refine retC_mk [(2, .sl 0 [] 1 0 l.length)] [(0, intO l)] 1 (fun a w h => (?_ : ∀ a w, Sim _ _ a w → Sim _ _ a w) a w (Sim.ghost 2 1 (fun i => .int .i64 (l.getD i 0)) (by rfl) (.inl rfl) a w h)) (retQ_ok (by rfl) [(0, intO l)] (fun i av h => h) ⟨?_, ?_⟩)
    · rw [hz]
      exact (Sim.less [] (by rfl) R_ R_)
    · rfl
    · rfl
  · (refine retC_mk ([(2, .sl 0 [] 1 0 l.length)]) ([(0, intO l)]) 1 (Sim.less [] (by rfl) R_ R_) (retQ_ok (by rfl) ([(0, intO l)]) (fun i av h => h) ⟨?_, ?_⟩)) <;> rfl
theorem index_ok (l : List Int) (hl : l.length ≤ 9223372036854775807) (x : Int) : Ok Tryd.prog 52 [] [] (.pair (intsV l) (.pair (.int .i64 x) .nul)) (fun r h' => r = .int .i64 (idxP (fun v => decide (x = v)) 0 l) ∧ h' = []) := by
  refine Ok.of_vcC tt_ok Tryd.func52 rfl rfl (by show 2 ≤ _; decide) 0 (hlt_ok (by rfl)) fun c0 => ?_
  repeat' (first | (refine SS_ ?_) | fail)
  refine VC.loop (fun k : Nat => ⟨[(8, .int .i64 (k : Nat)), (7, .int .i64 l.length), (1, .int .i64 x), (0, intsV l)], [], [], 0⟩) (fun k => k ≤ l.length ∧ idxP (fun v => decide (x = v)) 0 l = idxP (fun v => decide (x = v)) k (l.drop k)) (fun k => l.length - k) 0 ⟨by omega, rfl⟩ (Sim.less [] (by rfl) R_ R_) fun k hk => ?_
  obtain ⟨hk, hr⟩ := hk
  by_cases hkl : k < l.length
  · have hget : l.getD ((k : Nat) : Int).toNat 0 = l.getD k 0 := by rw [Int.toNat_natCast]
    rw [idxP_step hkl] at hr
    repeat' (first | (refine SS_ ?_) | (refine VC.litT (by rfl) LTR_ ?_) | (refine VC.cond (by rfl) (fun hb => ?_) (fun hb => ?_) <;> (fail_if_success (with_reducible have := litT_ hb)) <;> (fail_if_success (with_reducible have := litF_ hb)) <;> (try simp only [HB_] at hb) <;> (try (exfalso; first | omega | (cases hb; done)))) | fail)
    · rw [if_pos (decide_eq_true (by omega))] at hr
      rw [hr]
      (refine retC_mk ([(4, .int .i64 (k : Nat))]) ([]) 0 (Sim.less [] (by rfl) R_ R_) (retQ_ok (by rfl) ([]) (fun i av h => h) ⟨?_, ?_⟩)) <;> rfl
    · rw [if_neg (fun h => by have := of_decide_eq_true h; omega)] at hr
      refine ⟨k + 1, ⟨by omega, hr⟩, by omega, ?_⟩
      exact (Sim.less [] (by rfl) R_ R_)
  · repeat' (first | (refine SS_ ?_) | (refine VC.litF (by rfl) LFA_ ?_) | fail)
    rw [List.drop_of_length_le (by omega)] at hr
    rw [hr]
    (refine retC_mk ([(4, .int .i64 (-1))]) ([]) 0 (Sim.less [] (by rfl) R_ R_) (retQ_ok (by rfl) ([]) (fun i av h => h) ⟨?_, ?_⟩)) <;> rfl
theorem contains_ok (l : List Int) (hl : l.length ≤ 9223372036854775807) (x : Int) : Ok Tryd.prog 35 [] [] (.pair (intsV l) (.pair (.int .i64 x) .nul)) (fun r h' => r = .bool (decide (x ∈ l)) ∧ h' = []) := by
  have c1 := index_ok l hl x
  rw [show decide (x ∈ l) = decide (0 ≤ idxP (fun v => decide (x = v)) 0 l) by rw [idxP_any, any_eq]]
  generalize idxP (fun v => decide (x = v)) 0 l = m at *
  refine Ok.of_vcC tt_ok Tryd.func35 rfl rfl (by show 2 ≤ _; decide) 0 (hlt_ok (by rfl)) fun c0 => ?_
  repeat' (first | (refine SS_ ?_) | (refine Seq.callp false (c1) Tryd.func52 GOk.nil subG.nil (by rfl) (by rfl) rfl rfl rfl rfl rfl (by rfl) rfl VW_ NI_ NI_ FR_ ?_) | fail)
  (refine retC_mk ([(4, .bool (decide (0 ≤ m)))]) ([]) 0 (Sim.less [] (by rfl) R_ R_) (retQ_ok (by rfl) ([]) (fun i av h => h) ⟨?_, ?_⟩)) <;> rfl
theorem sameI_ok (A B : List Int) (hA : A.length ≤ 9223372036854775807) (hB : B.length ≤ 9223372036854775807) : Ok Tryd.prog 18 [] [] (.pair (intsV A) (.pair (intsV B) .nul)) (fun r h' => r = .bool (decide (A = B)) ∧ h' = []) := by
  by_cases hlen : A.length = B.length
  · refine Ok.of_vcC tt_ok Tryd.func18 rfl rfl (by show 2 ≤ _; decide) 0 (hlt_ok (by rfl)) fun c0 => ?_
    repeat' (first | (refine SS_ ?_) | (refine VC.litF (by rfl) LFA_ ?_) | fail)
    refine VC.loop (fun k : Nat => ⟨[(5, .int .i64 (k : Nat)), (1, intsV B), (0, intsV A)], [], [], 0⟩) (fun k => k ≤ A.length ∧ ∀ j, j < k → A.getD j 0 = B.getD j 0) (fun k => A.length - k) 0 ⟨by omega, fun j hj => absurd hj (Nat.not_lt_zero _)⟩ (Sim.less [] (by rfl) R_ R_) fun k hk => ?_
    obtain ⟨hk, hall⟩ := hk
    by_cases hkn : k < A.length
    · have hg1 : A.getD ((k : Nat) : Int).toNat 0 = A.getD k 0 := by rw [Int.toNat_natCast]
      have hg2 : B.getD ((k : Nat) : Int).toNat 0 = B.getD k 0 := by rw [Int.toNat_natCast]
      repeat' (first | (refine SS_ ?_) | (refine VC.drawm (id := 6) [(0, 0), (1, 0), (2, 3), (3, 7), (4, 0), (5, 0), (6, 48), (7, 112), (8, 255)] [] (by rfl) (by kernel_rfl) (by rfl) ?_) | (refine VC.litT (by rfl) LTR_ ?_) | (refine DD_ ?_) | (refine VC.cond (by rfl) (fun hb => ?_) (fun hb => ?_) <;> (fail_if_success (with_reducible have := litT_ hb)) <;> (fail_if_success (with_reducible have := litF_ hb)) <;> (try simp only [HB_] at hb) <;> (try (exfalso; first | omega | (cases hb; done)))) | fail)
      · rw [decide_eq_false (fun e : A = B => by subst e; omega)]
        (refine retC_mk ([(4, .bool false)]) ([]) 0 (Sim.less [] (by rfl) R_ R_) (retQ_ok (by rfl) ([]) (fun i av h => h) ⟨?_, ?_⟩)) <;> rfl
      · refine ⟨k + 1, ⟨by omega, fun j hj => ?_⟩, by omega, by exact (Sim.less [] (by rfl) R_ R_)⟩
        rcases Nat.lt_or_ge j k with h | h
        · exact hall j h
        · obtain rfl : j = k := by omega
          omega
    · repeat' (first | (refine SS_ ?_) | (refine VC.litF (by rfl) LFA_ ?_) | fail)
      have e : A = B := List.ext_getElem hlen fun j h1 h2 => by
        have := hall j (by omega)
        rw [List.getD_eq_getElem?_getD, List.getElem?_eq_getElem h1, List.getD_eq_getElem?_getD, List.getElem?_eq_getElem h2] at this
        exact this
      rw [decide_eq_true e]
      (refine retC_mk ([(4, .bool true)]) ([]) 0 (Sim.less [] (by rfl) R_ R_) (retQ_ok (by rfl) ([]) (fun i av h => h) ⟨?_, ?_⟩)) <;> rfl
  · have hne : A ≠ B := fun e => hlen (by rw [e])
    rw [decide_eq_false hne]
    refine Ok.of_vcC tt_ok Tryd.func18 rfl rfl (by show 2 ≤ _; decide) 0 (hlt_ok (by rfl)) fun c0 => ?_
    repeat' (first | (refine SS_ ?_) | (refine VC.litT (by rfl) LTR_ ?_) | fail)
    (refine retC_mk ([(4, .bool false)]) ([]) 0 (Sim.less [] (by rfl) R_ R_) (retQ_ok (by rfl) ([]) (fun i av h => h) ⟨?_, ?_⟩)) <;> rfl
end Go.Proofs.YtmbldnahcmkpgaaDoor
