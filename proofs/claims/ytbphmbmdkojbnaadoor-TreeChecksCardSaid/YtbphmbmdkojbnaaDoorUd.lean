
/- dioramaref39.Spoilt: some digests. -/
import Derived.Test.YtbphmbmdkojbnaaDoorUz
set_option linter.unusedSimpArgs false
set_option linter.unusedVariables false
namespace Go.Proofs.YtbphmbmdkojbnaaDoor
open Go.V Go.RowKit Go.U Go.L
/-- The value of some digest. -/
def DigA (a : AV) : Prop := ∃ (g : Nat → AV) (D : List UInt8), a = .arr 16 1 g ∧ D.length = 16 ∧ ∀ i, i < 16 → g i = .int .u8 (((D.getD i 0).toNat : Nat) : Int)
theorem digA_of {D : List UInt8} (h : D.length = 16) : DigA (digA D) := ⟨_, D, rfl, h, fun i _ => rfl⟩
theorem digA_zero : DigA (.arr 16 1 (fun _ => .int .u8 0)) := ⟨_, List.replicate 16 0, rfl, rfl, fun i hi => by
  rw [List.getD_eq_getElem?_getD, List.getElem?_replicate, if_pos hi]; rfl⟩
theorem digA_set {g : Nat → AV} {k : Nat} {n : Int} (h : DigA (.arr 16 1 g)) (hk : k < 16) (hn : 0 ≤ n ∧ n < 256) : DigA (.arr 16 1 (fun j => bif Nat.beq j k then .int .u8 n else g j)) := by
  obtain ⟨g', D, e, h1, h2⟩ := h
  injection e with _ _ e
  subst e
  refine ⟨_, D.set k (UInt8.ofNat n.toNat), rfl, by rw [List.length_set]; exact h1, fun i hi => ?_⟩
  by_cases hik : i = k
  · subst hik
    have : ((D.set i (UInt8.ofNat n.toNat)).getD i 0) = UInt8.ofNat n.toNat := by simp [h1, hi]
    rw [this, bif_eq rfl, UInt8.toNat_ofNat']
    exact congrArg (AV.int .u8) (by omega)
  · have : ((D.set k (UInt8.ofNat n.toNat)).getD i 0) = D.getD i 0 := by
      rw [List.getD_eq_getElem?_getD, List.getD_eq_getElem?_getD, List.getElem?_set_ne (Ne.symm hik)]
    rw [this]
    show (bif Nat.beq i k then _ else g i) = _
    rw [bif_ne hik]; exact h2 i hi
theorem digA_imp {a : AV} (h : DigA a) : ∃ D : List UInt8, D.length = 16 ∧ Imp (digA D) a := by
  obtain ⟨g, D, rfl, h1, h2⟩ := h
  exact ⟨D, h1, Imp.arr rfl fun i hi => Imp.of_eq (h2 i hi).symm⟩
theorem digA_noId {a : AV} (h : DigA a) : NoId a := by
  obtain ⟨g, D, rfl, h1, h2⟩ := h
  intro i hi
  rw [h2 i hi]; trivial
theorem wrap8 (n : Int) : 0 ≤ IntKind.u8.wrap n ∧ IntKind.u8.wrap n < 256 := by
  show 0 ≤ n % 256 ∧ n % 256 < 256
  omega
theorem digA_setI {D : List UInt8} {k : Nat} {n : Int} (h : D.length = 16) (hn : 0 ≤ n ∧ n < 256) : Imp (digA (D.set k (UInt8.ofNat n.toNat))) (.arr 16 1 (fun j => bif Nat.beq j k then .int .u8 n else .int .u8 (((D.getD j 0).toNat : Nat) : Int))) := by
  refine Imp.arr rfl fun i hi => Imp.of_eq ?_
  have hi : i < 16 := hi
  cases hq : Nat.beq i k
  · have : ((D.set k (UInt8.ofNat n.toNat)).getD i 0) = D.getD i 0 := by
      rw [List.getD_eq_getElem?_getD, List.getD_eq_getElem?_getD, List.getElem?_set_ne (fun e => by rw [e] at hq; simp at hq)]
    show AV.int .u8 _ = AV.int .u8 _
    rw [this]
  · obtain rfl := Nat.eq_of_beq_eq_true hq
    have : ((D.set i (UInt8.ofNat n.toNat)).getD i 0) = UInt8.ofNat n.toNat := by simp [h, hi]
    show AV.int .u8 _ = AV.int .u8 _
    rw [this, UInt8.toNat_ofNat']
    exact congrArg (AV.int .u8) (by omega)
/-- A slice of the digests S, in a block of the call's own. -/
def Digs (S : List (List UInt8)) (r : AV) (h' : Asc) : Prop := ∃ id m F, r = .sl id [] 16 0 m ∧ h' = [(id, .arr m 16 F)] ∧ m = S.length ∧ ∀ i, i < m → DigA (F i) ∧ Imp (digA (S.getD i [])) (F i)
theorem digs_still {P : Program} {f : FuncId} {g : Asc} {args : AV} {S : List (List UInt8)} (k : Ok P f g [] args (Digs S)) : Ok P f g [] args (fun r h' => r = digsT S ∧ h' = []) := by
  refine (k.still (R' := fun r h' => ∃ m F, r = .rsl true m 16 F ∧ h' = [] ∧ m = S.length ∧ ∀ i, i < m → Imp (digA (S.getD i [])) (F i)) fun r h' h => ?_).imp fun r h' h => ?_
  · obtain ⟨id, m, F, rfl, rfl, h1, h2⟩ := h
    exact ⟨_, ViewT.sl (f := F) (by rw [get?_cons, if_pos rfl]) rfl trivial (by omega) rfl (fun i hi => ViewT.rel (by rw [Nat.zero_add]; exact (digA_noId (h2 i hi).1).self)), m, F, rfl, rfl, h1, fun i hi => (h2 i hi).2⟩
  · obtain ⟨m, F, rfl, rfl, rfl, h2⟩ := h
    exact ⟨digsT S, Imp.rsl rfl id h2, rfl, rfl⟩
theorem digs_ret {e h g : Asc} {N0 : Nat} {S : List (List UInt8)} {fn : Func} {id m : Nat} {F : Nat → AV} {x : Exit} (hx : match x with | .ret | .normal => True | _ => False) (hr : resAV TT ⟨e, h, g, N0⟩ fn.results.toList = some (.sl id [] 16 0 m)) (hh : get? h id = some (.arr m 16 F)) (hm : m = S.length) (hF : ∀ i, i < m → DigA (F i) ∧ Imp (digA (S.getD i [])) (F i)) : retQ TT fn (Digs S) x ⟨e, h, g, N0⟩ :=
  ⟨hx, _, [(id, .arr m 16 F)], hr, (fun i av hi => by
    rw [get?_cons] at hi
    split at hi
    · rename_i e; subst e; cases hi; exact hh
    · cases hi), id, m, F, rfl, rfl, hm, hF⟩
def argsSp (L : List (List UInt8)) (at_ how by_ : Int) : AV := .pair (digsV L) (.pair (.int .i64 at_) (.pair (.int .i64 how) (.pair (.int .i64 by_) .nul)))
theorem dOk_dig {L : List (List UInt8)} (hL : DOk L) {i : Nat} (h : i < L.length) : DigA (digA (L.getD i [])) := by
  refine digA_of ?_
  rw [← digsV_get h]; exact hL.get i
def oneD (by_ : Int) : List UInt8 := zeroD.set (aroundI by_ 16).toNat (UInt8.ofNat (IntKind.u8.wrap by_).toNat)
/-- What Spoilt makes of digests. -/
def spoiltR (L : List (List UInt8)) (at_ how by_ : Int) : List (List UInt8) :=
  if L.length = 0 then [oneD by_] else
  if aroundI how 5 = 0 then L.set (aroundI at_ (L.length : Nat)).toNat ((L.getD (aroundI at_ (L.length : Nat)).toNat []).set (aroundI by_ 16).toNat (UInt8.ofNat (IntKind.u8.wrap ((((L.getD (aroundI at_ (L.length : Nat)).toNat []).getD (aroundI by_ 16).toNat 0).toNat : Nat) + 1)).toNat)) else
  if aroundI how 5 = 1 then L.take (aroundI at_ (L.length : Nat)).toNat ++ L.drop ((aroundI at_ (L.length : Nat)).toNat + 1) else
  if aroundI how 5 = 2 then L.take (aroundI at_ (L.length : Nat)).toNat ++ [oneD by_] ++ L.drop (aroundI at_ (L.length : Nat)).toNat else
  if aroundI how 5 = 3 then L ++ [L.getD (aroundI at_ (L.length : Nat)).toNat []] else
  if (aroundI at_ (L.length : Nat)).toNat + 1 < L.length then (L.set (aroundI at_ (L.length : Nat)).toNat (L.getD ((aroundI at_ (L.length : Nat)).toNat + 1) [])).set ((aroundI at_ (L.length : Nat)).toNat + 1) (L.getD (aroundI at_ (L.length : Nat)).toNat []) else L
theorem oneD_length (by_ : Int) : (oneD by_).length = 16 := by unfold oneD; rw [List.length_set]; rfl
theorem spoiltR_DOk (L : List (List UInt8)) (hL : DOk L) (hl : L.length ≤ 1000000) (at_ how by_ : Int) : DOk (spoiltR L at_ how by_) ∧ (spoiltR L at_ how by_).length ≤ L.length + 1 := by
  have h16 : ∀ d ∈ L, d.length = 16 := hL.2
  by_cases h0 : L.length = 0
  · have : spoiltR L at_ how by_ = [oneD by_] := by unfold spoiltR; rw [if_pos h0]
    rw [this]
    exact ⟨⟨by simp, fun d hd => by rw [List.mem_singleton.1 hd]; exact oneD_length _⟩, by simp⟩
  have bk := around_lt at_ (L.length : Nat) (by omega)
  unfold spoiltR
  rw [if_neg h0]
  generalize hk : (aroundI at_ (L.length : Nat)).toNat = k
  have hkl : k < L.length := by omega
  have hg : ∀ i, i < L.length → (L.getD i []).length = 16 := fun i hi => by rw [← digsV_get hi]; exact hL.get i
  have hset : ∀ (l : List (List UInt8)) (i : Nat) (d : List UInt8), (∀ x ∈ l, x.length = 16) → d.length = 16 → ∀ x ∈ l.set i d, x.length = 16 := fun l i d h1 h2 x hx => by
    rcases List.mem_or_eq_of_mem_set hx with h | h
    · exact h1 x h
    · rw [h]; exact h2
  split
  · exact ⟨⟨by rw [List.length_set]; omega, hset _ _ _ h16 (by rw [List.length_set]; exact hg k hkl)⟩, by rw [List.length_set]; omega⟩
  split
  · refine ⟨⟨by rw [List.length_append, List.length_take, List.length_drop]; omega, fun d hd => ?_⟩, by rw [List.length_append, List.length_take, List.length_drop]; omega⟩
    rcases List.mem_append.1 hd with h | h
    · exact h16 d (List.mem_of_mem_take h)
    · exact h16 d (List.mem_of_mem_drop h)
  split
  · refine ⟨⟨by simp only [List.length_append, List.length_take, List.length_drop, List.length_singleton]; omega, fun d hd => ?_⟩, by simp only [List.length_append, List.length_take, List.length_drop, List.length_singleton]; omega⟩
    rcases List.mem_append.1 hd with h | h
    · rcases List.mem_append.1 h with h | h
      · exact h16 d (List.mem_of_mem_take h)
      · rw [List.mem_singleton.1 h]; exact oneD_length _
    · exact h16 d (List.mem_of_mem_drop h)
  split
  · refine ⟨⟨by rw [List.length_append, List.length_singleton]; omega, fun d hd => ?_⟩, by rw [List.length_append, List.length_singleton]; omega⟩
    rcases List.mem_append.1 hd with h | h
    · exact h16 d h
    · rw [List.mem_singleton.1 h]; exact hg k hkl
  split
  · rename_i hk1
    exact ⟨⟨by rw [List.length_set, List.length_set]; omega, hset _ _ _ (hset _ _ _ h16 (hg _ hk1)) (hg k hkl)⟩, by rw [List.length_set, List.length_set]; omega⟩
  · exact ⟨hL, by omega⟩
theorem getD_app_left {α : Type} {l r : List α} {i : Nat} {d : α} (h : i < l.length) : (l ++ r).getD i d = l.getD i d := by
  rw [List.getD_eq_getElem?_getD, List.getD_eq_getElem?_getD, List.getElem?_append_left h]
theorem getD_app_right {α : Type} {l r : List α} {i : Nat} {d : α} (h : l.length ≤ i) : (l ++ r).getD i d = r.getD (i - l.length) d := by
  rw [List.getD_eq_getElem?_getD, List.getD_eq_getElem?_getD, List.getElem?_append_right h]
theorem getD_set_ne' {α : Type} {l : List α} {i k : Nat} {x d : α} (h : i ≠ k) : (l.set k x).getD i d = l.getD i d := by
  rw [List.getD_eq_getElem?_getD, List.getD_eq_getElem?_getD, List.getElem?_set_ne (Ne.symm h)]
theorem getD_set_eq' {α : Type} {l : List α} {i : Nat} {x d : α} (h : i < l.length) : (l.set i x).getD i d = x := by simp [h]
set_option maxHeartbeats 4000000 in
set_option maxRecDepth 10000 in
theorem spoilt_raw (L : List (List UInt8)) (hL : DOk L) (hl : L.length ≤ 1000000) (at_ how by_ : Int) (h1 : i64B at_) (h2 : i64B how) (h3 : i64B by_) : Ok Tryd.prog 19 [] [] (argsSp L at_ how by_) (Digs (spoiltR L at_ how by_)) := by
  have ca := around_ok by_ 16 h3
  have ba := around_lt by_ 16 (by omega)
  have hg : ∀ i, i < L.length → (L.getD i []).length = 16 := fun i hi => by rw [← digsV_get hi]; exact hL.get i
  obtain ⟨p, hp⟩ : ∃ p : Nat, aroundI by_ 16 = p := ⟨(aroundI by_ 16).toNat, by omega⟩
  have ho : oneD by_ = zeroD.set p (UInt8.ofNat (IntKind.u8.wrap by_).toNat) := by unfold oneD; rw [hp, Int.toNat_natCast]
  have hd := digA_set (k := p) digA_zero (by omega) (wrap8 by_)
  have hd2 : Imp (digA (oneD by_)) (.arr 16 1 (fun j => bif Nat.beq j p then .int .u8 (IntKind.u8.wrap by_) else .int .u8 0)) := by
    rw [ho]
    refine (fun c m vs hv => digA_setI (D := zeroD) rfl (wrap8 by_) c m vs ((Imp.arr rfl fun i hi => ?_) c m vs hv))
    cases Nat.beq i p
    · have : zeroD.getD i 0 = 0 := by
        rcases Nat.lt_or_ge i 16 with h | h
        · unfold zeroD; rw [List.getD_eq_getElem?_getD, List.getElem?_replicate, if_pos h]; rfl
        · exact absurd hi (by omega)
      exact Imp.of_eq (by show AV.int .u8 (((zeroD.getD i 0).toNat : Nat) : Int) = _; rw [this]; rfl)
    · exact Imp.refl _
  have hS : spoiltR L at_ how by_ = spoiltR L at_ how by_ := rfl
  rw (occs := .pos [2]) [spoiltR] at hS
  generalize spoiltR L at_ how by_ = S at *
  rw [hp] at ca ba hS
  rw [Int.toNat_natCast] at hS
  have ck := around_ok at_ (L.length : Nat) h1
  have bk := fun h => around_lt at_ (L.length : Nat) h
  have ch := around_ok how 5 h2
  have bh := around_lt how 5 (by omega)
  by_cases h0 : L.length = 0
  · rw [if_pos h0] at hS
    subst hS
    refine Ok.of_vc tt_ok Tryd.func19 rfl rfl (by show 4 ≤ _; decide) 0 (fun i av h => by cases h) fun c0 => ?_
    repeat' (first | (refine SS_ ?_) | (refine Seq.lit (by rfl) (by rfl) LT2_ ?_) | (refine Seq.callq false (ca) Tryd.func10 GG_ SG_ (by rfl) rfl rfl rfl (by rfl) rfl VW_ NI_ NI_ FR_ ?_) | (refine VC.litT (by rfl) LTR_ ?_) | (refine VC.litF (by rfl) LFA_ ?_) | (refine DD_ ?_) | (refine DSeq.lit2 (by rfl) (by rfl) (by rfl) LT2_ (by rfl) ?_) | (refine DSeq.callq false (ca) Tryd.func10 GG_ SG_ (by rfl) (fastE (by rfl)) (fastH (by rfl)) (by rfl) rfl rfl rfl (by rfl) (by rfl) VW_ NI_ NI_ FR_ ?_) | ((refine retQ_ok (by rfl) [] nil_sub ⟨?_, rfl⟩); try rfl) | (refine Seq.litC (by rfl) (by rfl) (fun hb => ?_) (fun hb => ?_) <;> (fail_if_success (with_reducible have := litT_ hb)) <;> (fail_if_success (with_reducible have := litF_ hb)) <;> (try simp only [decide_eq_true_eq, decide_eq_false_iff_not, Bool.not_eq_true', Bool.not_eq_false', Bool.or_eq_true, Bool.or_eq_false_iff, Bool.and_eq_true, Bool.and_eq_false_iff] at hb) <;> (try (exfalso; first | omega | (cases hb; done)))) | (refine VC.cond (by rfl) (fun hb => ?_) (fun hb => ?_) <;> (fail_if_success (with_reducible have := litT_ hb)) <;> (fail_if_success (with_reducible have := litF_ hb)) <;> (try simp only [decide_eq_true_eq, decide_eq_false_iff_not, Bool.not_eq_true', Bool.not_eq_false', Bool.or_eq_true, Bool.or_eq_false_iff, Bool.and_eq_true, Bool.and_eq_false_iff] at hb) <;> (try (exfalso; first | omega | (cases hb; done)))) | (refine DSeq.litC2 (by rfl) (by rfl) (by rfl) (by rfl) (by rfl) (fun hb => ?_) (fun hb => ?_) <;> (fail_if_success (with_reducible have := litT_ hb)) <;> (fail_if_success (with_reducible have := litF_ hb)) <;> (try simp only [decide_eq_true_eq, decide_eq_false_iff_not, Bool.not_eq_true', Bool.not_eq_false', Bool.or_eq_true, Bool.or_eq_false_iff, Bool.and_eq_true, Bool.and_eq_false_iff] at hb) <;> (try (exfalso; first | omega | (cases hb; done)))))
    refine digs_ret trivial (by rfl) (by rfl) (by rfl) fun i hi => ?_
    have : i = 0 := by omega
    subst this
    exact ⟨hd, hd2⟩
  rw [if_neg h0] at hS
  obtain ⟨k, hk⟩ : ∃ p : Nat, aroundI at_ (L.length : Nat) = p := ⟨(aroundI at_ (L.length : Nat)).toNat, by have := bk (by omega); omega⟩
  have bk := bk (by omega)
  rw [hk] at ck bk hS
  rw [Int.toNat_natCast] at hS
  obtain ⟨w, hw⟩ : ∃ p : Nat, aroundI how 5 = p := ⟨(aroundI how 5).toNat, by omega⟩
  rw [hw] at ch bh hS
  have hkk : ((k : Nat) : Int).toNat = k := Int.toNat_natCast k
  rcases (by omega : w = 0 ∨ w = 1 ∨ w = 2 ∨ w = 3 ∨ w = 4) with rfl | rfl | rfl | rfl | rfl
  · rw [if_pos (by rfl)] at hS
    refine Ok.of_vc tt_ok Tryd.func19 rfl rfl (by show 4 ≤ _; decide) 0 (fun i av h => by cases h) fun c0 => ?_
    repeat' (first | (refine SS_ ?_) | (refine VC.drawm (id := 12) [(0, 0), (1, 0), (2, 0), (3, 4), (4, 0), (5, 0), (6, 0), (7, 76), (8, 48), (9, 508), (10, 1020), (11, 2044), (12, 3), (13, 8191)] [14] (by rfl) (by kernel_rfl) (by rfl) ?_) | (refine VC.drawn2 (id := 12) [(0, 0), (1, 0), (2, 0), (3, 4), (4, 0), (5, 0), (6, 0), (7, 76), (8, 48), (9, 508), (10, 1020), (11, 2044), (12, 3), (13, 8191)] [14] (by rfl) (by kernel_rfl) (by rfl) (by rfl) ?_) | (refine Seq.lit (by rfl) (by rfl) LT2_ ?_) | (refine Seq.callq false (ca) Tryd.func10 GG_ SG_ (by rfl) rfl rfl rfl (by rfl) rfl VW_ NI_ NI_ FR_ ?_) | (refine Seq.callq false (ck) Tryd.func10 GG_ SG_ (by rfl) rfl rfl rfl (by rfl) rfl VW_ NI_ NI_ FR_ ?_) | (refine Seq.callq false (ch) Tryd.func10 GG_ SG_ (by rfl) rfl rfl rfl (by rfl) rfl VW_ NI_ NI_ FR_ ?_) | (refine VC.litT (by rfl) LTR_ ?_) | (refine VC.litF (by rfl) LFA_ ?_) | (refine DD_ ?_) | (refine DSeq.lit2 (by rfl) (by rfl) (by rfl) LT2_ (by rfl) ?_) | (refine DSeq.callq false (ca) Tryd.func10 GG_ SG_ (by rfl) (fastE (by rfl)) (fastH (by rfl)) (by rfl) rfl rfl rfl (by rfl) (by rfl) VW_ NI_ NI_ FR_ ?_) | (refine DSeq.callq false (ck) Tryd.func10 GG_ SG_ (by rfl) (fastE (by rfl)) (fastH (by rfl)) (by rfl) rfl rfl rfl (by rfl) (by rfl) VW_ NI_ NI_ FR_ ?_) | (refine DSeq.callq false (ch) Tryd.func10 GG_ SG_ (by rfl) (fastE (by rfl)) (fastH (by rfl)) (by rfl) rfl rfl rfl (by rfl) (by rfl) VW_ NI_ NI_ FR_ ?_) | ((refine retQ_ok (by rfl) [] nil_sub ⟨?_, rfl⟩); try rfl) | (refine Seq.litC (by rfl) (by rfl) (fun hb => ?_) (fun hb => ?_) <;> (fail_if_success (with_reducible have := litT_ hb)) <;> (fail_if_success (with_reducible have := litF_ hb)) <;> (try simp only [decide_eq_true_eq, decide_eq_false_iff_not, Bool.not_eq_true', Bool.not_eq_false', Bool.or_eq_true, Bool.or_eq_false_iff, Bool.and_eq_true, Bool.and_eq_false_iff] at hb) <;> (try (exfalso; first | omega | (cases hb; done)))) | (refine VC.cond (by rfl) (fun hb => ?_) (fun hb => ?_) <;> (fail_if_success (with_reducible have := litT_ hb)) <;> (fail_if_success (with_reducible have := litF_ hb)) <;> (try simp only [decide_eq_true_eq, decide_eq_false_iff_not, Bool.not_eq_true', Bool.not_eq_false', Bool.or_eq_true, Bool.or_eq_false_iff, Bool.and_eq_true, Bool.and_eq_false_iff] at hb) <;> (try (exfalso; first | omega | (cases hb; done)))) | (refine DSeq.litC2 (by rfl) (by rfl) (by rfl) (by rfl) (by rfl) (fun hb => ?_) (fun hb => ?_) <;> (fail_if_success (with_reducible have := litT_ hb)) <;> (fail_if_success (with_reducible have := litF_ hb)) <;> (try simp only [decide_eq_true_eq, decide_eq_false_iff_not, Bool.not_eq_true', Bool.not_eq_false', Bool.or_eq_true, Bool.or_eq_false_iff, Bool.and_eq_true, Bool.and_eq_false_iff] at hb) <;> (try (exfalso; first | omega | (cases hb; done)))))
    refine digs_ret trivial (by rfl) (by rfl) (by rw [hS, List.length_set]) fun i hi => ?_
    show DigA (bif Nat.beq i (0 + ((k : Nat) : Int).toNat) then _ else _) ∧ Imp _ (bif Nat.beq i (0 + ((k : Nat) : Int).toNat) then _ else _)
    cases hq : Nat.beq i (0 + ((k : Nat) : Int).toNat)
    · refine ⟨dOk_dig hL hi, Imp.of_eq (congrArg digA ?_)⟩
      rw [hS, getD_set_ne' (fun e => by rw [e, hkk, Nat.zero_add] at hq; simp at hq)]
    · refine ⟨digA_set (dOk_dig hL (i := 0 + ((k : Nat) : Int).toNat) (by omega)) (by omega) (wrap8 _), ?_⟩
      have := Nat.eq_of_beq_eq_true hq
      obtain rfl : i = k := by omega
      rw [hS, getD_set_eq' hi]
      have h3 := digA_setI (D := L.getD i []) (k := p) (hg i hi) (wrap8 ((((L.getD i []).getD p 0).toNat : Nat) + 1))
      have e1 : 0 + ((i : Nat) : Int).toNat = i := by omega
      have e2 : ((p : Nat) : Int).toNat = p := by omega
      show Imp _ (setp (digA (L.getD (0 + ((i : Nat) : Int).toNat) [])) [Step.idx ((p : Nat) : Int).toNat 1] (.int .u8 (IntKind.u8.wrap ((((L.getD (0 + ((i : Nat) : Int).toNat) []).getD ((p : Nat) : Int).toNat 0).toNat : Nat) + 1))))
      rw [e1, e2]
      exact h3
  · rw [if_neg (by decide), if_pos (by rfl)] at hS
    refine Ok.of_vc tt_ok Tryd.func19 rfl rfl (by show 4 ≤ _; decide) 0 (fun i av h => by cases h) fun c0 => ?_
    repeat' (first | (refine SS_ ?_) | (refine Seq.lit (by rfl) (by rfl) LT2_ ?_) | (refine Seq.callq false (ca) Tryd.func10 GG_ SG_ (by rfl) rfl rfl rfl (by rfl) rfl VW_ NI_ NI_ FR_ ?_) | (refine Seq.callq false (ck) Tryd.func10 GG_ SG_ (by rfl) rfl rfl rfl (by rfl) rfl VW_ NI_ NI_ FR_ ?_) | (refine Seq.callq false (ch) Tryd.func10 GG_ SG_ (by rfl) rfl rfl rfl (by rfl) rfl VW_ NI_ NI_ FR_ ?_) | (refine VC.litT (by rfl) LTR_ ?_) | (refine VC.litF (by rfl) LFA_ ?_) | (refine DD_ ?_) | (refine DSeq.lit2 (by rfl) (by rfl) (by rfl) LT2_ (by rfl) ?_) | (refine DSeq.callq false (ca) Tryd.func10 GG_ SG_ (by rfl) (fastE (by rfl)) (fastH (by rfl)) (by rfl) rfl rfl rfl (by rfl) (by rfl) VW_ NI_ NI_ FR_ ?_) | (refine DSeq.callq false (ck) Tryd.func10 GG_ SG_ (by rfl) (fastE (by rfl)) (fastH (by rfl)) (by rfl) rfl rfl rfl (by rfl) (by rfl) VW_ NI_ NI_ FR_ ?_) | (refine DSeq.callq false (ch) Tryd.func10 GG_ SG_ (by rfl) (fastE (by rfl)) (fastH (by rfl)) (by rfl) rfl rfl rfl (by rfl) (by rfl) VW_ NI_ NI_ FR_ ?_) | ((refine retQ_ok (by rfl) [] nil_sub ⟨?_, rfl⟩); try rfl) | (refine Seq.litC (by rfl) (by rfl) (fun hb => ?_) (fun hb => ?_) <;> (fail_if_success (with_reducible have := litT_ hb)) <;> (fail_if_success (with_reducible have := litF_ hb)) <;> (try simp only [decide_eq_true_eq, decide_eq_false_iff_not, Bool.not_eq_true', Bool.not_eq_false', Bool.or_eq_true, Bool.or_eq_false_iff, Bool.and_eq_true, Bool.and_eq_false_iff] at hb) <;> (try (exfalso; first | omega | (cases hb; done)))) | (refine VC.cond (by rfl) (fun hb => ?_) (fun hb => ?_) <;> (fail_if_success (with_reducible have := litT_ hb)) <;> (fail_if_success (with_reducible have := litF_ hb)) <;> (try simp only [decide_eq_true_eq, decide_eq_false_iff_not, Bool.not_eq_true', Bool.not_eq_false', Bool.or_eq_true, Bool.or_eq_false_iff, Bool.and_eq_true, Bool.and_eq_false_iff] at hb) <;> (try (exfalso; first | omega | (cases hb; done)))) | (refine DSeq.litC2 (by rfl) (by rfl) (by rfl) (by rfl) (by rfl) (fun hb => ?_) (fun hb => ?_) <;> (fail_if_success (with_reducible have := litT_ hb)) <;> (fail_if_success (with_reducible have := litF_ hb)) <;> (try simp only [decide_eq_true_eq, decide_eq_false_iff_not, Bool.not_eq_true', Bool.not_eq_false', Bool.or_eq_true, Bool.or_eq_false_iff, Bool.and_eq_true, Bool.and_eq_false_iff] at hb) <;> (try (exfalso; first | omega | (cases hb; done)))))
    refine VC.conv (Sim.cut 1 k (by rfl) (by omega) (by rfl)) ?_
    repeat' (first | (refine SS_ ?_) | (refine VC.drawm (id := 14) [(0, 0), (1, 0), (2, 3), (3, 0), (4, 0), (5, 16), (6, 56)] [7, 8] (by rfl) (by kernel_rfl) (by rfl) ?_) | (refine VC.drawn2 (id := 14) [(0, 0), (1, 0), (2, 3), (3, 0), (4, 0), (5, 16), (6, 56)] [7, 8] (by rfl) (by kernel_rfl) (by rfl) (by rfl) ?_) | (refine Seq.lit (by rfl) (by rfl) LT2_ ?_) | (refine VC.litT (by rfl) LTR_ ?_) | (refine VC.litF (by rfl) LFA_ ?_) | (refine DD_ ?_) | (refine DSeq.lit2 (by rfl) (by rfl) (by rfl) LT2_ (by rfl) ?_) | ((refine retQ_ok (by rfl) [] nil_sub ⟨?_, rfl⟩); try rfl) | (refine Seq.litC (by rfl) (by rfl) (fun hb => ?_) (fun hb => ?_) <;> (fail_if_success (with_reducible have := litT_ hb)) <;> (fail_if_success (with_reducible have := litF_ hb)) <;> (try simp only [decide_eq_true_eq, decide_eq_false_iff_not, Bool.not_eq_true', Bool.not_eq_false', Bool.or_eq_true, Bool.or_eq_false_iff, Bool.and_eq_true, Bool.and_eq_false_iff] at hb) <;> (try (exfalso; first | omega | (cases hb; done)))) | (refine VC.cond (by rfl) (fun hb => ?_) (fun hb => ?_) <;> (fail_if_success (with_reducible have := litT_ hb)) <;> (fail_if_success (with_reducible have := litF_ hb)) <;> (try simp only [decide_eq_true_eq, decide_eq_false_iff_not, Bool.not_eq_true', Bool.not_eq_false', Bool.or_eq_true, Bool.or_eq_false_iff, Bool.and_eq_true, Bool.and_eq_false_iff] at hb) <;> (try (exfalso; first | omega | (cases hb; done)))) | (refine DSeq.litC2 (by rfl) (by rfl) (by rfl) (by rfl) (by rfl) (fun hb => ?_) (fun hb => ?_) <;> (fail_if_success (with_reducible have := litT_ hb)) <;> (fail_if_success (with_reducible have := litF_ hb)) <;> (try simp only [decide_eq_true_eq, decide_eq_false_iff_not, Bool.not_eq_true', Bool.not_eq_false', Bool.or_eq_true, Bool.or_eq_false_iff, Bool.and_eq_true, Bool.and_eq_false_iff] at hb) <;> (try (exfalso; first | omega | (cases hb; done)))))
    refine digs_ret trivial (by rfl) (by rfl) (by rw [hS, List.length_append, List.length_take, List.length_drop]; omega) fun i hi => ?_
    rcases Nat.lt_or_ge i (((k : Nat) : Int).toNat - 0) with h | h
    · rw [joinF_lt h]
      refine ⟨dOk_dig hL (by omega), Imp.of_eq (congrArg digA ?_)⟩
      rw [hS, getD_app_left (by rw [List.length_take]; omega), getD_take (by omega)]
    · rw [joinF_ge h]
      refine ⟨dOk_dig hL (by omega), Imp.of_eq (congrArg digA ?_)⟩
      rw [hS, getD_app_right (by rw [List.length_take]; omega), getD_drop, List.length_take]
      congr 1; omega
  · rw [if_neg (by decide), if_neg (by decide), if_pos (by rfl)] at hS
    refine Ok.of_vc tt_ok Tryd.func19 rfl rfl (by show 4 ≤ _; decide) 0 (fun i av h => by cases h) fun c0 => ?_
    repeat' (first | (refine SS_ ?_) | (refine Seq.lit (by rfl) (by rfl) LT2_ ?_) | (refine Seq.callq false (ca) Tryd.func10 GG_ SG_ (by rfl) rfl rfl rfl (by rfl) rfl VW_ NI_ NI_ FR_ ?_) | (refine Seq.callq false (ck) Tryd.func10 GG_ SG_ (by rfl) rfl rfl rfl (by rfl) rfl VW_ NI_ NI_ FR_ ?_) | (refine Seq.callq false (ch) Tryd.func10 GG_ SG_ (by rfl) rfl rfl rfl (by rfl) rfl VW_ NI_ NI_ FR_ ?_) | (refine VC.litT (by rfl) LTR_ ?_) | (refine VC.litF (by rfl) LFA_ ?_) | (refine DD_ ?_) | (refine DSeq.lit2 (by rfl) (by rfl) (by rfl) LT2_ (by rfl) ?_) | (refine DSeq.callq false (ca) Tryd.func10 GG_ SG_ (by rfl) (fastE (by rfl)) (fastH (by rfl)) (by rfl) rfl rfl rfl (by rfl) (by rfl) VW_ NI_ NI_ FR_ ?_) | (refine DSeq.callq false (ck) Tryd.func10 GG_ SG_ (by rfl) (fastE (by rfl)) (fastH (by rfl)) (by rfl) rfl rfl rfl (by rfl) (by rfl) VW_ NI_ NI_ FR_ ?_) | (refine DSeq.callq false (ch) Tryd.func10 GG_ SG_ (by rfl) (fastE (by rfl)) (fastH (by rfl)) (by rfl) rfl rfl rfl (by rfl) (by rfl) VW_ NI_ NI_ FR_ ?_) | ((refine retQ_ok (by rfl) [] nil_sub ⟨?_, rfl⟩); try rfl) | (refine Seq.litC (by rfl) (by rfl) (fun hb => ?_) (fun hb => ?_) <;> (fail_if_success (with_reducible have := litT_ hb)) <;> (fail_if_success (with_reducible have := litF_ hb)) <;> (try simp only [decide_eq_true_eq, decide_eq_false_iff_not, Bool.not_eq_true', Bool.not_eq_false', Bool.or_eq_true, Bool.or_eq_false_iff, Bool.and_eq_true, Bool.and_eq_false_iff] at hb) <;> (try (exfalso; first | omega | (cases hb; done)))) | (refine VC.cond (by rfl) (fun hb => ?_) (fun hb => ?_) <;> (fail_if_success (with_reducible have := litT_ hb)) <;> (fail_if_success (with_reducible have := litF_ hb)) <;> (try simp only [decide_eq_true_eq, decide_eq_false_iff_not, Bool.not_eq_true', Bool.not_eq_false', Bool.or_eq_true, Bool.or_eq_false_iff, Bool.and_eq_true, Bool.and_eq_false_iff] at hb) <;> (try (exfalso; first | omega | (cases hb; done)))) | (refine DSeq.litC2 (by rfl) (by rfl) (by rfl) (by rfl) (by rfl) (fun hb => ?_) (fun hb => ?_) <;> (fail_if_success (with_reducible have := litT_ hb)) <;> (fail_if_success (with_reducible have := litF_ hb)) <;> (try simp only [decide_eq_true_eq, decide_eq_false_iff_not, Bool.not_eq_true', Bool.not_eq_false', Bool.or_eq_true, Bool.or_eq_false_iff, Bool.and_eq_true, Bool.and_eq_false_iff] at hb) <;> (try (exfalso; first | omega | (cases hb; done)))))
    refine VC.conv (Sim.cut 1 k (by rfl) (by omega) (by rfl)) ?_
    refine VC.drawmB [(1, .arr k 16 (fun i => digA (L.getD i [])))] [(0, 0), (1, 0), (2, 3), (3, 0), (4, 8), (5, 31), (6, 0), (7, 0), (8, 192)] [9, 10] (by rfl) (by rfl) (by kernel_rfl) (by rfl) ?_
    refine D_ ?_
    refine DSeq.eata true tt_ok (by rfl) (fastE (by rfl)) (fastH (by rfl)) (fastH (by rfl)) (by rfl) (by (first | exact trivial | exact u8_in _ rfl | exact u32_in _ rfl | ((with_reducible refine AllP.guard ?_); simp only [AllP, inI, fitV, maxK, inK, inbL, inb, List.append, List.cons_append, List.nil_append, true_and, and_true]; first | done | omega))) (by rfl) rfl (by rfl) ?_
    repeat' (first | (refine SS_ ?_) | (refine Seq.lit (by rfl) (by rfl) LT2_ ?_) | (refine VC.litT (by rfl) LTR_ ?_) | (refine VC.litF (by rfl) LFA_ ?_) | (refine DD_ ?_) | (refine DSeq.lit2 (by rfl) (by rfl) (by rfl) LT2_ (by rfl) ?_) | ((refine retQ_ok (by rfl) [] nil_sub ⟨?_, rfl⟩); try rfl) | (refine Seq.litC (by rfl) (by rfl) (fun hb => ?_) (fun hb => ?_) <;> (fail_if_success (with_reducible have := litT_ hb)) <;> (fail_if_success (with_reducible have := litF_ hb)) <;> (try simp only [decide_eq_true_eq, decide_eq_false_iff_not, Bool.not_eq_true', Bool.not_eq_false', Bool.or_eq_true, Bool.or_eq_false_iff, Bool.and_eq_true, Bool.and_eq_false_iff] at hb) <;> (try (exfalso; first | omega | (cases hb; done)))) | (refine VC.cond (by rfl) (fun hb => ?_) (fun hb => ?_) <;> (fail_if_success (with_reducible have := litT_ hb)) <;> (fail_if_success (with_reducible have := litF_ hb)) <;> (try simp only [decide_eq_true_eq, decide_eq_false_iff_not, Bool.not_eq_true', Bool.not_eq_false', Bool.or_eq_true, Bool.or_eq_false_iff, Bool.and_eq_true, Bool.and_eq_false_iff] at hb) <;> (try (exfalso; first | omega | (cases hb; done)))) | (refine DSeq.litC2 (by rfl) (by rfl) (by rfl) (by rfl) (by rfl) (fun hb => ?_) (fun hb => ?_) <;> (fail_if_success (with_reducible have := litT_ hb)) <;> (fail_if_success (with_reducible have := litF_ hb)) <;> (try simp only [decide_eq_true_eq, decide_eq_false_iff_not, Bool.not_eq_true', Bool.not_eq_false', Bool.or_eq_true, Bool.or_eq_false_iff, Bool.and_eq_true, Bool.and_eq_false_iff] at hb) <;> (try (exfalso; first | omega | (cases hb; done)))))
    refine digs_ret trivial (by rfl) (by rfl) (by rw [hS, List.length_append, List.length_append, List.length_take, List.length_drop, List.length_singleton]; omega) fun i hi => ?_
    rcases Nat.lt_or_ge i (((k : Nat) : Int).toNat - 0 + 1) with h | h
    · rw [joinF_lt h]
      rw [hS, getD_app_left (by rw [List.length_append, List.length_take, List.length_singleton]; omega)]
      rcases Nat.lt_or_ge i (((k : Nat) : Int).toNat - 0) with h2 | h2
      · rw [joinF_lt h2, getD_app_left (by rw [List.length_take]; omega), getD_take (by omega)]
        exact ⟨dOk_dig hL (by omega), Imp.refl _⟩
      · rw [joinF_ge h2, show i - (((k : Nat) : Int).toNat - 0) = 0 by omega, getD_app_right (by rw [List.length_take]; omega), List.length_take, show i - min k L.length = 0 by omega]
        exact ⟨hd, hd2⟩
    · rw [joinF_ge h, hS, getD_app_right (by rw [List.length_append, List.length_take, List.length_singleton]; omega), getD_drop, List.length_append, List.length_take, List.length_singleton]
      refine ⟨dOk_dig hL (by omega), Imp.of_eq (congrArg digA ?_)⟩
      congr 1; omega
  · rw [if_neg (by decide), if_neg (by decide), if_neg (by decide), if_pos (by rfl)] at hS
    refine Ok.of_vc tt_ok Tryd.func19 rfl rfl (by show 4 ≤ _; decide) 0 (fun i av h => by cases h) fun c0 => ?_
    repeat' (first | (refine SS_ ?_) | (refine Seq.lit (by rfl) (by rfl) LT2_ ?_) | (refine Seq.callq false (ca) Tryd.func10 GG_ SG_ (by rfl) rfl rfl rfl (by rfl) rfl VW_ NI_ NI_ FR_ ?_) | (refine Seq.callq false (ck) Tryd.func10 GG_ SG_ (by rfl) rfl rfl rfl (by rfl) rfl VW_ NI_ NI_ FR_ ?_) | (refine Seq.callq false (ch) Tryd.func10 GG_ SG_ (by rfl) rfl rfl rfl (by rfl) rfl VW_ NI_ NI_ FR_ ?_) | (refine VC.litT (by rfl) LTR_ ?_) | (refine VC.litF (by rfl) LFA_ ?_) | (refine DD_ ?_) | (refine DSeq.lit2 (by rfl) (by rfl) (by rfl) LT2_ (by rfl) ?_) | (refine DSeq.callq false (ca) Tryd.func10 GG_ SG_ (by rfl) (fastE (by rfl)) (fastH (by rfl)) (by rfl) rfl rfl rfl (by rfl) (by rfl) VW_ NI_ NI_ FR_ ?_) | (refine DSeq.callq false (ck) Tryd.func10 GG_ SG_ (by rfl) (fastE (by rfl)) (fastH (by rfl)) (by rfl) rfl rfl rfl (by rfl) (by rfl) VW_ NI_ NI_ FR_ ?_) | (refine DSeq.callq false (ch) Tryd.func10 GG_ SG_ (by rfl) (fastE (by rfl)) (fastH (by rfl)) (by rfl) rfl rfl rfl (by rfl) (by rfl) VW_ NI_ NI_ FR_ ?_) | ((refine retQ_ok (by rfl) [] nil_sub ⟨?_, rfl⟩); try rfl) | (refine Seq.litC (by rfl) (by rfl) (fun hb => ?_) (fun hb => ?_) <;> (fail_if_success (with_reducible have := litT_ hb)) <;> (fail_if_success (with_reducible have := litF_ hb)) <;> (try simp only [decide_eq_true_eq, decide_eq_false_iff_not, Bool.not_eq_true', Bool.not_eq_false', Bool.or_eq_true, Bool.or_eq_false_iff, Bool.and_eq_true, Bool.and_eq_false_iff] at hb) <;> (try (exfalso; first | omega | (cases hb; done)))) | (refine VC.cond (by rfl) (fun hb => ?_) (fun hb => ?_) <;> (fail_if_success (with_reducible have := litT_ hb)) <;> (fail_if_success (with_reducible have := litF_ hb)) <;> (try simp only [decide_eq_true_eq, decide_eq_false_iff_not, Bool.not_eq_true', Bool.not_eq_false', Bool.or_eq_true, Bool.or_eq_false_iff, Bool.and_eq_true, Bool.and_eq_false_iff] at hb) <;> (try (exfalso; first | omega | (cases hb; done)))) | (refine DSeq.litC2 (by rfl) (by rfl) (by rfl) (by rfl) (by rfl) (fun hb => ?_) (fun hb => ?_) <;> (fail_if_success (with_reducible have := litT_ hb)) <;> (fail_if_success (with_reducible have := litF_ hb)) <;> (try simp only [decide_eq_true_eq, decide_eq_false_iff_not, Bool.not_eq_true', Bool.not_eq_false', Bool.or_eq_true, Bool.or_eq_false_iff, Bool.and_eq_true, Bool.and_eq_false_iff] at hb) <;> (try (exfalso; first | omega | (cases hb; done)))))
    refine digs_ret trivial (by rfl) (by rfl) (by rw [hS, List.length_append, List.length_singleton]) fun i hi => ?_
    rcases Nat.lt_or_ge i L.length with h | h
    · rw [joinF_lt h, hS, getD_app_left h]; exact ⟨dOk_dig hL h, Imp.refl _⟩
    · rw [joinF_ge h, show i - L.length = 0 by omega, hS, getD_app_right h, show i - L.length = 0 by omega]
      exact ⟨dOk_dig hL (i := ((k : Nat) : Int).toNat) (by omega), Imp.of_eq (congrArg digA (by rw [hkk]; rfl))⟩
  · rw [if_neg (by decide), if_neg (by decide), if_neg (by decide), if_neg (by decide)] at hS
    refine Ok.of_vc tt_ok Tryd.func19 rfl rfl (by show 4 ≤ _; decide) 0 (fun i av h => by cases h) fun c0 => ?_
    repeat' (first | (refine SS_ ?_) | (refine Seq.lit (by rfl) (by rfl) LT2_ ?_) | (refine Seq.callq false (ca) Tryd.func10 GG_ SG_ (by rfl) rfl rfl rfl (by rfl) rfl VW_ NI_ NI_ FR_ ?_) | (refine Seq.callq false (ck) Tryd.func10 GG_ SG_ (by rfl) rfl rfl rfl (by rfl) rfl VW_ NI_ NI_ FR_ ?_) | (refine Seq.callq false (ch) Tryd.func10 GG_ SG_ (by rfl) rfl rfl rfl (by rfl) rfl VW_ NI_ NI_ FR_ ?_) | (refine VC.litT (by rfl) LTR_ ?_) | (refine VC.litF (by rfl) LFA_ ?_) | (refine DD_ ?_) | (refine DSeq.lit2 (by rfl) (by rfl) (by rfl) LT2_ (by rfl) ?_) | (refine DSeq.callq false (ca) Tryd.func10 GG_ SG_ (by rfl) (fastE (by rfl)) (fastH (by rfl)) (by rfl) rfl rfl rfl (by rfl) (by rfl) VW_ NI_ NI_ FR_ ?_) | (refine DSeq.callq false (ck) Tryd.func10 GG_ SG_ (by rfl) (fastE (by rfl)) (fastH (by rfl)) (by rfl) rfl rfl rfl (by rfl) (by rfl) VW_ NI_ NI_ FR_ ?_) | (refine DSeq.callq false (ch) Tryd.func10 GG_ SG_ (by rfl) (fastE (by rfl)) (fastH (by rfl)) (by rfl) rfl rfl rfl (by rfl) (by rfl) VW_ NI_ NI_ FR_ ?_) | ((refine retQ_ok (by rfl) [] nil_sub ⟨?_, rfl⟩); try rfl) | (refine Seq.litC (by rfl) (by rfl) (fun hb => ?_) (fun hb => ?_) <;> (fail_if_success (with_reducible have := litT_ hb)) <;> (fail_if_success (with_reducible have := litF_ hb)) <;> (try simp only [decide_eq_true_eq, decide_eq_false_iff_not, Bool.not_eq_true', Bool.not_eq_false', Bool.or_eq_true, Bool.or_eq_false_iff, Bool.and_eq_true, Bool.and_eq_false_iff] at hb) <;> (try (exfalso; first | omega | (cases hb; done)))) | (refine VC.cond (by rfl) (fun hb => ?_) (fun hb => ?_) <;> (fail_if_success (with_reducible have := litT_ hb)) <;> (fail_if_success (with_reducible have := litF_ hb)) <;> (try simp only [decide_eq_true_eq, decide_eq_false_iff_not, Bool.not_eq_true', Bool.not_eq_false', Bool.or_eq_true, Bool.or_eq_false_iff, Bool.and_eq_true, Bool.and_eq_false_iff] at hb) <;> (try (exfalso; first | omega | (cases hb; done)))) | (refine DSeq.litC2 (by rfl) (by rfl) (by rfl) (by rfl) (by rfl) (fun hb => ?_) (fun hb => ?_) <;> (fail_if_success (with_reducible have := litT_ hb)) <;> (fail_if_success (with_reducible have := litF_ hb)) <;> (try simp only [decide_eq_true_eq, decide_eq_false_iff_not, Bool.not_eq_true', Bool.not_eq_false', Bool.or_eq_true, Bool.or_eq_false_iff, Bool.and_eq_true, Bool.and_eq_false_iff] at hb) <;> (try (exfalso; first | omega | (cases hb; done)))))
    · rw [if_pos (by omega)] at hS
      have hL2 : DigA (digA (L.getD (k + 1) [])) := dOk_dig hL (by omega)
      refine Seq.conv (Sim.impO 1 (v := .arr L.length 16 (fun i => digA ((L.set k (L.getD (k + 1) [])).getD i []))) (by rfl) (Imp.arr rfl fun i hi => Imp.of_eq ?_) (by rfl) (by rfl)) ?_
      · show digA _ = bif Nat.beq i (0 + ((k : Nat) : Int).toNat) then _ else _
        cases hq : Nat.beq i (0 + ((k : Nat) : Int).toNat)
        · rw [getD_set_ne' (fun e => by rw [e, hkk, Nat.zero_add] at hq; simp at hq)]; rfl
        · have := Nat.eq_of_beq_eq_true hq
          obtain rfl : i = k := by omega
          simp [hi]; rfl
      repeat' (first | (refine SS_ ?_) | (refine Seq.lit (by rfl) (by rfl) LT2_ ?_) | (refine VC.litT (by rfl) LTR_ ?_) | (refine VC.litF (by rfl) LFA_ ?_) | (refine DD_ ?_) | (refine DSeq.lit2 (by rfl) (by rfl) (by rfl) LT2_ (by rfl) ?_) | ((refine retQ_ok (by rfl) [] nil_sub ⟨?_, rfl⟩); try rfl) | (refine Seq.litC (by rfl) (by rfl) (fun hb => ?_) (fun hb => ?_) <;> (fail_if_success (with_reducible have := litT_ hb)) <;> (fail_if_success (with_reducible have := litF_ hb)) <;> (try simp only [decide_eq_true_eq, decide_eq_false_iff_not, Bool.not_eq_true', Bool.not_eq_false', Bool.or_eq_true, Bool.or_eq_false_iff, Bool.and_eq_true, Bool.and_eq_false_iff] at hb) <;> (try (exfalso; first | omega | (cases hb; done)))) | (refine VC.cond (by rfl) (fun hb => ?_) (fun hb => ?_) <;> (fail_if_success (with_reducible have := litT_ hb)) <;> (fail_if_success (with_reducible have := litF_ hb)) <;> (try simp only [decide_eq_true_eq, decide_eq_false_iff_not, Bool.not_eq_true', Bool.not_eq_false', Bool.or_eq_true, Bool.or_eq_false_iff, Bool.and_eq_true, Bool.and_eq_false_iff] at hb) <;> (try (exfalso; first | omega | (cases hb; done)))) | (refine DSeq.litC2 (by rfl) (by rfl) (by rfl) (by rfl) (by rfl) (fun hb => ?_) (fun hb => ?_) <;> (fail_if_success (with_reducible have := litT_ hb)) <;> (fail_if_success (with_reducible have := litF_ hb)) <;> (try simp only [decide_eq_true_eq, decide_eq_false_iff_not, Bool.not_eq_true', Bool.not_eq_false', Bool.or_eq_true, Bool.or_eq_false_iff, Bool.and_eq_true, Bool.and_eq_false_iff] at hb) <;> (try (exfalso; first | omega | (cases hb; done)))))
      refine digs_ret trivial (by rfl) (by rfl) (by rw [hS, List.length_set, List.length_set]) fun i hi => ?_
      show DigA (bif Nat.beq i (0 + (((k : Nat) : Int) + 1).toNat) then _ else _) ∧ Imp _ (bif Nat.beq i (0 + (((k : Nat) : Int) + 1).toNat) then _ else _)
      rw [hS]
      cases hq : Nat.beq i (0 + (((k : Nat) : Int) + 1).toNat)
      · rw [getD_set_ne' (fun e => by rw [e, show 0 + (((k : Nat) : Int) + 1).toNat = k + 1 by omega] at hq; simp at hq)]
        show DigA (digA ((L.set k (L.getD (k + 1) [])).getD i [])) ∧ Imp _ (digA ((L.set k (L.getD (k + 1) [])).getD i []))
        refine ⟨?_, Imp.refl _⟩
        by_cases hik : i = k
        · subst hik
          simp [hi]
          simpa using hL2
        · rw [getD_set_ne' hik]
          exact dOk_dig hL hi
      · have := Nat.eq_of_beq_eq_true hq
        obtain rfl : i = k + 1 := by omega
        rw [getD_set_eq' (by rw [List.length_set]; omega)]
        exact ⟨dOk_dig hL (i := ((k : Nat) : Int).toNat) (by omega), Imp.of_eq (congrArg digA (by rw [hkk]))⟩
    · rw [if_neg (by omega)] at hS
      refine digs_ret trivial (by rfl) (by rfl) (by rw [hS]) fun i hi => ?_
      rw [hS]
      exact ⟨dOk_dig hL hi, Imp.refl _⟩
theorem spoilt_ok (L : List (List UInt8)) (hL : DOk L) (hl : L.length ≤ 1000000) (at_ how by_ : Int) (h1 : i64B at_) (h2 : i64B how) (h3 : i64B by_) : Ok Tryd.prog 19 [] [] (argsSp L at_ how by_) (fun r h' => r = digsT (spoiltR L at_ how by_) ∧ h' = []) :=
  digs_still (spoilt_raw L hL hl at_ how by_ h1 h2 h3)
end Go.Proofs.YtbphmbmdkojbnaaDoor
