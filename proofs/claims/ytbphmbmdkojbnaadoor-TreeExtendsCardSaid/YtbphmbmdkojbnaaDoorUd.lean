
/- dioramaref39.Spoilt: some digests. -/
import Derived.Test.YtbphmbmdkojbnaaDoorUz
set_option linter.unusedSimpArgs false
set_option linter.unusedVariables false
namespace Go.Proofs.YtbphmbmdkojbnaaDoor
open Go.V Go.RowKit Go.U Go.L
/-- The value of some digest. -/
def DigA (a : AV) : Prop := ∃ (g : Nat → AV) (D : List UInt8), a = .arr 16 1 g ∧ D.length = 16 ∧ ∀ i, i < 16 → g i = .int .u8 (((D.getD i 0).toNat : Nat) : Int)
theorem digA_of {D : List UInt8} (h : D.length = 16) : DigA (digA D) := ⟨_, D, rfl, h, fun i _ => rfl⟩
theorem digA_zero : DigA (.arr 16 1 (fun _ => .int .u8 0)) := ⟨_, List.replicate 16 0, rfl, rfl, fun i hi => by
  rw [List.getD_eq_getElem?_getD, List.getElem?_replicate, if_pos hi]; rfl⟩
theorem digA_set {g : Nat → AV} {k : Nat} {n : Int} (h : DigA (.arr 16 1 g)) (hk : k < 16) (hn : 0 ≤ n ∧ n < 256) : DigA (.arr 16 1 (fun j => bif Nat.beq j k then .int .u8 n else g j)) := by
  obtain ⟨g', D, e, h1, h2⟩ := h
  injection e with _ _ e
  subst e
  refine ⟨_, D.set k (UInt8.ofNat n.toNat), rfl, by rw [List.length_set]; exact h1, fun i hi => ?_⟩
  by_cases hik : i = k
  · subst hik
    have : ((D.set i (UInt8.ofNat n.toNat)).getD i 0) = UInt8.ofNat n.toNat := by simp [h1, hi]
    rw [this, bif_eq rfl, UInt8.toNat_ofNat']
    exact congrArg (AV.int .u8) (by omega)
  · have : ((D.set k (UInt8.ofNat n.toNat)).getD i 0) = D.getD i 0 := by
      rw [List.getD_eq_getElem?_getD, List.getD_eq_getElem?_getD, List.getElem?_set_ne (Ne.symm hik)]
    rw [this]
    show (bif Nat.beq i k then _ else g i) = _
    rw [bif_ne hik]; exact h2 i hi
theorem digA_imp {a : AV} (h : DigA a) : ∃ D : List UInt8, D.length = 16 ∧ Imp (digA D) a := by
  obtain ⟨g, D, rfl, h1, h2⟩ := h
  exact ⟨D, h1, Imp.arr rfl fun i hi => Imp.of_eq (h2 i hi).symm⟩
theorem digA_noId {a : AV} (h : DigA a) : NoId a := by
  obtain ⟨g, D, rfl, h1, h2⟩ := h
  intro i hi
  rw [h2 i hi]; trivial
theorem wrap8 (n : Int) : 0 ≤ IntKind.u8.wrap n ∧ IntKind.u8.wrap n < 256 := by
  show 0 ≤ n % 256 ∧ n % 256 < 256
  omega
/-- A slice of some digests, in a block of the call's own. -/
def Digs (N : Nat) (r : AV) (h' : Asc) : Prop := ∃ id m F, r = .sl id [] 16 0 m ∧ h' = [(id, .arr m 16 F)] ∧ m ≤ N ∧ ∀ i, i < m → DigA (F i)
theorem digs_still {P : Program} {f : FuncId} {g : Asc} {args : AV} {N : Nat} (hN : N ≤ 1000000000) (k : Ok P f g [] args (Digs N)) : Ok P f g [] args (fun r h' => ∃ L, r = digsT L ∧ h' = [] ∧ DOk L ∧ L.length ≤ N) := by
  refine (k.still (R' := fun r h' => ∃ m F, r = .rsl true m 16 F ∧ h' = [] ∧ m ≤ N ∧ ∀ i, i < m → DigA (F i)) fun r h' h => ?_).imp fun r h' h => ?_
  · obtain ⟨id, m, F, rfl, rfl, h1, h2⟩ := h
    exact ⟨_, ViewT.sl (f := F) (by rw [get?_cons, if_pos rfl]) rfl trivial (by omega) rfl (fun i hi => ViewT.rel (by rw [Nat.zero_add]; exact (digA_noId (h2 i hi)).self)), m, F, rfl, rfl, h1, h2⟩
  · obtain ⟨m, F, rfl, rfl, h1, h2⟩ := h
    obtain ⟨L, q1, q2⟩ := list_of ([] : List UInt8) (p := fun i D => D.length = 16 ∧ Imp (digA D) (F i)) (n := m) fun i hi => digA_imp (h2 i hi)
    subst q1
    refine ⟨digsT L, Imp.rsl rfl id fun i hi => (q2 i hi).2, L, rfl, rfl, ⟨by omega, fun d hd => ?_⟩, h1⟩
    obtain ⟨i, hi, rfl⟩ := List.getElem_of_mem hd
    have := (q2 i hi).1
    rwa [List.getD_eq_getElem?_getD, List.getElem?_eq_getElem hi] at this
theorem digs_ret {e h g : Asc} {N0 M : Nat} {fn : Func} {id m : Nat} {F : Nat → AV} {x : Exit} (hx : match x with | .ret | .normal => True | _ => False) (hr : resAV TT ⟨e, h, g, N0⟩ fn.results.toList = some (.sl id [] 16 0 m)) (hh : get? h id = some (.arr m 16 F)) (hm : m ≤ M) (hF : ∀ i, i < m → DigA (F i)) : retQ TT fn (Digs M) x ⟨e, h, g, N0⟩ :=
  ⟨hx, _, [(id, .arr m 16 F)], hr, (fun i av hi => by
    rw [get?_cons] at hi
    split at hi
    · rename_i e; subst e; cases hi; exact hh
    · cases hi), id, m, F, rfl, rfl, hm, hF⟩
def argsSp (L : List (List UInt8)) (at_ how by_ : Int) : AV := .pair (digsV L) (.pair (.int .i64 at_) (.pair (.int .i64 how) (.pair (.int .i64 by_) .nul)))
theorem dOk_dig {L : List (List UInt8)} (hL : DOk L) {i : Nat} (h : i < L.length) : DigA (digA (L.getD i [])) := by
  refine digA_of ?_
  rw [← digsV_get h]; exact hL.get i
set_option maxHeartbeats 4000000 in
set_option maxRecDepth 10000 in
theorem spoilt_raw (L : List (List UInt8)) (hL : DOk L) (hl : L.length ≤ 1000000) (at_ how by_ : Int) (h1 : i64B at_) (h2 : i64B how) (h3 : i64B by_) : Ok Tryd.prog 19 [] [] (argsSp L at_ how by_) (Digs (L.length + 1)) := by
  have ca := around_ok by_ 16 h3
  have ba := around_lt by_ 16 (by omega)
  obtain ⟨p, hp⟩ : ∃ p : Nat, aroundI by_ 16 = p := ⟨(aroundI by_ 16).toNat, by omega⟩
  rw [hp] at ca ba
  have ck := around_ok at_ (L.length : Nat) h1
  have bk := fun h => around_lt at_ (L.length : Nat) h
  have ch := around_ok how 5 h2
  have bh := around_lt how 5 (by omega)
  obtain ⟨w, hw⟩ : ∃ p : Nat, aroundI how 5 = p := ⟨(aroundI how 5).toNat, by omega⟩
  rw [hw] at ch bh
  have hd := digA_set (k := p) digA_zero (by omega) (wrap8 by_)
  by_cases h0 : L.length = 0
  · refine Ok.of_vc tt_ok Tryd.func19 rfl rfl (by show 4 ≤ _; decide) 0 (fun i av h => by cases h) fun c0 => ?_
    repeat' (first | (refine SS_ ?_) | (refine Seq.lit (by rfl) (by rfl) LT2_ ?_) | (refine Seq.callq false (ca) Tryd.func10 GG_ SG_ (by rfl) rfl rfl rfl (by rfl) rfl VW_ NI_ NI_ FR_ ?_) | (refine VC.litT (by rfl) LTR_ ?_) | (refine VC.litF (by rfl) LFA_ ?_) | (refine DD_ ?_) | (refine DSeq.lit2 (by rfl) (by rfl) (by rfl) LT2_ (by rfl) ?_) | (refine DSeq.callq false (ca) Tryd.func10 GG_ SG_ (by rfl) (fastE (by rfl)) (fastH (by rfl)) (by rfl) rfl rfl rfl (by rfl) (by rfl) VW_ NI_ NI_ FR_ ?_) | ((refine retQ_ok (by rfl) [] nil_sub ⟨?_, rfl⟩); try rfl) | (refine Seq.litC (by rfl) (by rfl) (fun hb => ?_) (fun hb => ?_) <;> (try simp only [decide_eq_true_eq, decide_eq_false_iff_not, Bool.not_eq_true', Bool.not_eq_false', Bool.or_eq_true, Bool.or_eq_false_iff, Bool.and_eq_true, Bool.and_eq_false_iff] at hb) <;> (try (exfalso; first | omega | (cases hb; done)))) | (refine VC.cond (by rfl) (fun hb => ?_) (fun hb => ?_) <;> (try simp only [decide_eq_true_eq, decide_eq_false_iff_not, Bool.not_eq_true', Bool.not_eq_false', Bool.or_eq_true, Bool.or_eq_false_iff, Bool.and_eq_true, Bool.and_eq_false_iff] at hb) <;> (try (exfalso; first | omega | (cases hb; done)))) | (refine DSeq.litC2 (by rfl) (by rfl) (by rfl) (by rfl) (by rfl) (fun hb => ?_) (fun hb => ?_) <;> (try simp only [decide_eq_true_eq, decide_eq_false_iff_not, Bool.not_eq_true', Bool.not_eq_false', Bool.or_eq_true, Bool.or_eq_false_iff, Bool.and_eq_true, Bool.and_eq_false_iff] at hb) <;> (try (exfalso; first | omega | (cases hb; done)))))
    refine digs_ret trivial (by rfl) (by rfl) (by omega) fun i hi => ?_
    have : i = 0 := by omega
    subst this
    exact hd
  obtain ⟨k, hk⟩ : ∃ p : Nat, aroundI at_ (L.length : Nat) = p := ⟨(aroundI at_ (L.length : Nat)).toNat, by have := bk (by omega); omega⟩
  have bk := bk (by omega)
  rw [hk] at ck bk
  rcases (by omega : w = 0 ∨ w = 1 ∨ w = 2 ∨ w = 3 ∨ w = 4) with rfl | rfl | rfl | rfl | rfl
  · refine Ok.of_vc tt_ok Tryd.func19 rfl rfl (by show 4 ≤ _; decide) 0 (fun i av h => by cases h) fun c0 => ?_
    repeat' (first | (refine SS_ ?_) | (refine VC.drawm (id := 12) [(0, 0), (1, 0), (2, 0), (3, 4), (4, 0), (5, 0), (6, 0), (7, 76), (8, 48), (9, 508), (10, 1020), (11, 2044), (12, 3), (13, 8191)] [14] (by rfl) (by kernel_rfl) (by rfl) ?_) | (refine VC.drawn2 (id := 12) [(0, 0), (1, 0), (2, 0), (3, 4), (4, 0), (5, 0), (6, 0), (7, 76), (8, 48), (9, 508), (10, 1020), (11, 2044), (12, 3), (13, 8191)] [14] (by rfl) (by kernel_rfl) (by rfl) (by rfl) ?_) | (refine Seq.lit (by rfl) (by rfl) LT2_ ?_) | (refine Seq.callq false (ca) Tryd.func10 GG_ SG_ (by rfl) rfl rfl rfl (by rfl) rfl VW_ NI_ NI_ FR_ ?_) | (refine Seq.callq false (ck) Tryd.func10 GG_ SG_ (by rfl) rfl rfl rfl (by rfl) rfl VW_ NI_ NI_ FR_ ?_) | (refine Seq.callq false (ch) Tryd.func10 GG_ SG_ (by rfl) rfl rfl rfl (by rfl) rfl VW_ NI_ NI_ FR_ ?_) | (refine VC.litT (by rfl) LTR_ ?_) | (refine VC.litF (by rfl) LFA_ ?_) | (refine DD_ ?_) | (refine DSeq.lit2 (by rfl) (by rfl) (by rfl) LT2_ (by rfl) ?_) | (refine DSeq.callq false (ca) Tryd.func10 GG_ SG_ (by rfl) (fastE (by rfl)) (fastH (by rfl)) (by rfl) rfl rfl rfl (by rfl) (by rfl) VW_ NI_ NI_ FR_ ?_) | (refine DSeq.callq false (ck) Tryd.func10 GG_ SG_ (by rfl) (fastE (by rfl)) (fastH (by rfl)) (by rfl) rfl rfl rfl (by rfl) (by rfl) VW_ NI_ NI_ FR_ ?_) | (refine DSeq.callq false (ch) Tryd.func10 GG_ SG_ (by rfl) (fastE (by rfl)) (fastH (by rfl)) (by rfl) rfl rfl rfl (by rfl) (by rfl) VW_ NI_ NI_ FR_ ?_) | ((refine retQ_ok (by rfl) [] nil_sub ⟨?_, rfl⟩); try rfl) | (refine Seq.litC (by rfl) (by rfl) (fun hb => ?_) (fun hb => ?_) <;> (try simp only [decide_eq_true_eq, decide_eq_false_iff_not, Bool.not_eq_true', Bool.not_eq_false', Bool.or_eq_true, Bool.or_eq_false_iff, Bool.and_eq_true, Bool.and_eq_false_iff] at hb) <;> (try (exfalso; first | omega | (cases hb; done)))) | (refine VC.cond (by rfl) (fun hb => ?_) (fun hb => ?_) <;> (try simp only [decide_eq_true_eq, decide_eq_false_iff_not, Bool.not_eq_true', Bool.not_eq_false', Bool.or_eq_true, Bool.or_eq_false_iff, Bool.and_eq_true, Bool.and_eq_false_iff] at hb) <;> (try (exfalso; first | omega | (cases hb; done)))) | (refine DSeq.litC2 (by rfl) (by rfl) (by rfl) (by rfl) (by rfl) (fun hb => ?_) (fun hb => ?_) <;> (try simp only [decide_eq_true_eq, decide_eq_false_iff_not, Bool.not_eq_true', Bool.not_eq_false', Bool.or_eq_true, Bool.or_eq_false_iff, Bool.and_eq_true, Bool.and_eq_false_iff] at hb) <;> (try (exfalso; first | omega | (cases hb; done)))))
    refine digs_ret trivial (by rfl) (by rfl) (by omega) fun i hi => ?_
    show DigA (bif Nat.beq i (0 + ((k : Nat) : Int).toNat) then _ else _)
    cases hq : Nat.beq i (0 + ((k : Nat) : Int).toNat)
    · exact dOk_dig hL hi
    · exact digA_set (dOk_dig hL (i := 0 + ((k : Nat) : Int).toNat) (by omega)) (by omega) (wrap8 _)
  · refine Ok.of_vc tt_ok Tryd.func19 rfl rfl (by show 4 ≤ _; decide) 0 (fun i av h => by cases h) fun c0 => ?_
    repeat' (first | (refine SS_ ?_) | (refine Seq.lit (by rfl) (by rfl) LT2_ ?_) | (refine Seq.callq false (ca) Tryd.func10 GG_ SG_ (by rfl) rfl rfl rfl (by rfl) rfl VW_ NI_ NI_ FR_ ?_) | (refine Seq.callq false (ck) Tryd.func10 GG_ SG_ (by rfl) rfl rfl rfl (by rfl) rfl VW_ NI_ NI_ FR_ ?_) | (refine Seq.callq false (ch) Tryd.func10 GG_ SG_ (by rfl) rfl rfl rfl (by rfl) rfl VW_ NI_ NI_ FR_ ?_) | (refine VC.litT (by rfl) LTR_ ?_) | (refine VC.litF (by rfl) LFA_ ?_) | (refine DD_ ?_) | (refine DSeq.lit2 (by rfl) (by rfl) (by rfl) LT2_ (by rfl) ?_) | (refine DSeq.callq false (ca) Tryd.func10 GG_ SG_ (by rfl) (fastE (by rfl)) (fastH (by rfl)) (by rfl) rfl rfl rfl (by rfl) (by rfl) VW_ NI_ NI_ FR_ ?_) | (refine DSeq.callq false (ck) Tryd.func10 GG_ SG_ (by rfl) (fastE (by rfl)) (fastH (by rfl)) (by rfl) rfl rfl rfl (by rfl) (by rfl) VW_ NI_ NI_ FR_ ?_) | (refine DSeq.callq false (ch) Tryd.func10 GG_ SG_ (by rfl) (fastE (by rfl)) (fastH (by rfl)) (by rfl) rfl rfl rfl (by rfl) (by rfl) VW_ NI_ NI_ FR_ ?_) | ((refine retQ_ok (by rfl) [] nil_sub ⟨?_, rfl⟩); try rfl) | (refine Seq.litC (by rfl) (by rfl) (fun hb => ?_) (fun hb => ?_) <;> (try simp only [decide_eq_true_eq, decide_eq_false_iff_not, Bool.not_eq_true', Bool.not_eq_false', Bool.or_eq_true, Bool.or_eq_false_iff, Bool.and_eq_true, Bool.and_eq_false_iff] at hb) <;> (try (exfalso; first | omega | (cases hb; done)))) | (refine VC.cond (by rfl) (fun hb => ?_) (fun hb => ?_) <;> (try simp only [decide_eq_true_eq, decide_eq_false_iff_not, Bool.not_eq_true', Bool.not_eq_false', Bool.or_eq_true, Bool.or_eq_false_iff, Bool.and_eq_true, Bool.and_eq_false_iff] at hb) <;> (try (exfalso; first | omega | (cases hb; done)))) | (refine DSeq.litC2 (by rfl) (by rfl) (by rfl) (by rfl) (by rfl) (fun hb => ?_) (fun hb => ?_) <;> (try simp only [decide_eq_true_eq, decide_eq_false_iff_not, Bool.not_eq_true', Bool.not_eq_false', Bool.or_eq_true, Bool.or_eq_false_iff, Bool.and_eq_true, Bool.and_eq_false_iff] at hb) <;> (try (exfalso; first | omega | (cases hb; done)))))
    refine VC.conv (Sim.cut 1 k (by rfl) (by omega) (by rfl)) ?_
    repeat' (first | (refine SS_ ?_) | (refine VC.drawm (id := 14) [(0, 0), (1, 0), (2, 3), (3, 0), (4, 0), (5, 16), (6, 56)] [7, 8] (by rfl) (by kernel_rfl) (by rfl) ?_) | (refine VC.drawn2 (id := 14) [(0, 0), (1, 0), (2, 3), (3, 0), (4, 0), (5, 16), (6, 56)] [7, 8] (by rfl) (by kernel_rfl) (by rfl) (by rfl) ?_) | (refine Seq.lit (by rfl) (by rfl) LT2_ ?_) | (refine VC.litT (by rfl) LTR_ ?_) | (refine VC.litF (by rfl) LFA_ ?_) | (refine DD_ ?_) | (refine DSeq.lit2 (by rfl) (by rfl) (by rfl) LT2_ (by rfl) ?_) | ((refine retQ_ok (by rfl) [] nil_sub ⟨?_, rfl⟩); try rfl) | (refine Seq.litC (by rfl) (by rfl) (fun hb => ?_) (fun hb => ?_) <;> (try simp only [decide_eq_true_eq, decide_eq_false_iff_not, Bool.not_eq_true', Bool.not_eq_false', Bool.or_eq_true, Bool.or_eq_false_iff, Bool.and_eq_true, Bool.and_eq_false_iff] at hb) <;> (try (exfalso; first | omega | (cases hb; done)))) | (refine VC.cond (by rfl) (fun hb => ?_) (fun hb => ?_) <;> (try simp only [decide_eq_true_eq, decide_eq_false_iff_not, Bool.not_eq_true', Bool.not_eq_false', Bool.or_eq_true, Bool.or_eq_false_iff, Bool.and_eq_true, Bool.and_eq_false_iff] at hb) <;> (try (exfalso; first | omega | (cases hb; done)))) | (refine DSeq.litC2 (by rfl) (by rfl) (by rfl) (by rfl) (by rfl) (fun hb => ?_) (fun hb => ?_) <;> (try simp only [decide_eq_true_eq, decide_eq_false_iff_not, Bool.not_eq_true', Bool.not_eq_false', Bool.or_eq_true, Bool.or_eq_false_iff, Bool.and_eq_true, Bool.and_eq_false_iff] at hb) <;> (try (exfalso; first | omega | (cases hb; done)))))
    refine digs_ret trivial (by rfl) (by rfl) (by omega) fun i hi => ?_
    rcases Nat.lt_or_ge i (((k : Nat) : Int).toNat - 0) with h | h
    · rw [joinF_lt h]; exact dOk_dig hL (by omega)
    · rw [joinF_ge h]; exact dOk_dig hL (by omega)
  · refine Ok.of_vc tt_ok Tryd.func19 rfl rfl (by show 4 ≤ _; decide) 0 (fun i av h => by cases h) fun c0 => ?_
    repeat' (first | (refine SS_ ?_) | (refine Seq.lit (by rfl) (by rfl) LT2_ ?_) | (refine Seq.callq false (ca) Tryd.func10 GG_ SG_ (by rfl) rfl rfl rfl (by rfl) rfl VW_ NI_ NI_ FR_ ?_) | (refine Seq.callq false (ck) Tryd.func10 GG_ SG_ (by rfl) rfl rfl rfl (by rfl) rfl VW_ NI_ NI_ FR_ ?_) | (refine Seq.callq false (ch) Tryd.func10 GG_ SG_ (by rfl) rfl rfl rfl (by rfl) rfl VW_ NI_ NI_ FR_ ?_) | (refine VC.litT (by rfl) LTR_ ?_) | (refine VC.litF (by rfl) LFA_ ?_) | (refine DD_ ?_) | (refine DSeq.lit2 (by rfl) (by rfl) (by rfl) LT2_ (by rfl) ?_) | (refine DSeq.callq false (ca) Tryd.func10 GG_ SG_ (by rfl) (fastE (by rfl)) (fastH (by rfl)) (by rfl) rfl rfl rfl (by rfl) (by rfl) VW_ NI_ NI_ FR_ ?_) | (refine DSeq.callq false (ck) Tryd.func10 GG_ SG_ (by rfl) (fastE (by rfl)) (fastH (by rfl)) (by rfl) rfl rfl rfl (by rfl) (by rfl) VW_ NI_ NI_ FR_ ?_) | (refine DSeq.callq false (ch) Tryd.func10 GG_ SG_ (by rfl) (fastE (by rfl)) (fastH (by rfl)) (by rfl) rfl rfl rfl (by rfl) (by rfl) VW_ NI_ NI_ FR_ ?_) | ((refine retQ_ok (by rfl) [] nil_sub ⟨?_, rfl⟩); try rfl) | (refine Seq.litC (by rfl) (by rfl) (fun hb => ?_) (fun hb => ?_) <;> (try simp only [decide_eq_true_eq, decide_eq_false_iff_not, Bool.not_eq_true', Bool.not_eq_false', Bool.or_eq_true, Bool.or_eq_false_iff, Bool.and_eq_true, Bool.and_eq_false_iff] at hb) <;> (try (exfalso; first | omega | (cases hb; done)))) | (refine VC.cond (by rfl) (fun hb => ?_) (fun hb => ?_) <;> (try simp only [decide_eq_true_eq, decide_eq_false_iff_not, Bool.not_eq_true', Bool.not_eq_false', Bool.or_eq_true, Bool.or_eq_false_iff, Bool.and_eq_true, Bool.and_eq_false_iff] at hb) <;> (try (exfalso; first | omega | (cases hb; done)))) | (refine DSeq.litC2 (by rfl) (by rfl) (by rfl) (by rfl) (by rfl) (fun hb => ?_) (fun hb => ?_) <;> (try simp only [decide_eq_true_eq, decide_eq_false_iff_not, Bool.not_eq_true', Bool.not_eq_false', Bool.or_eq_true, Bool.or_eq_false_iff, Bool.and_eq_true, Bool.and_eq_false_iff] at hb) <;> (try (exfalso; first | omega | (cases hb; done)))))
    refine VC.conv (Sim.cut 1 k (by rfl) (by omega) (by rfl)) ?_
    refine VC.drawmB [(1, .arr k 16 (fun i => digA (L.getD i [])))] [(0, 0), (1, 0), (2, 3), (3, 0), (4, 8), (5, 31), (6, 0), (7, 0), (8, 192)] [9, 10] (by rfl) (by rfl) (by kernel_rfl) (by rfl) ?_
    refine D_ ?_
    refine DSeq.eata true tt_ok (by rfl) (fastE (by rfl)) (fastH (by rfl)) (fastH (by rfl)) (by rfl) (by (first | exact trivial | exact u8_in _ rfl | exact u32_in _ rfl | ((with_reducible refine AllP.guard ?_); simp only [AllP, inI, fitV, maxK, inK, inbL, inb, List.append, List.cons_append, List.nil_append, true_and, and_true]; first | done | omega))) (by rfl) rfl (by rfl) ?_
    repeat' (first | (refine SS_ ?_) | (refine Seq.lit (by rfl) (by rfl) LT2_ ?_) | (refine VC.litT (by rfl) LTR_ ?_) | (refine VC.litF (by rfl) LFA_ ?_) | (refine DD_ ?_) | (refine DSeq.lit2 (by rfl) (by rfl) (by rfl) LT2_ (by rfl) ?_) | ((refine retQ_ok (by rfl) [] nil_sub ⟨?_, rfl⟩); try rfl) | (refine Seq.litC (by rfl) (by rfl) (fun hb => ?_) (fun hb => ?_) <;> (try simp only [decide_eq_true_eq, decide_eq_false_iff_not, Bool.not_eq_true', Bool.not_eq_false', Bool.or_eq_true, Bool.or_eq_false_iff, Bool.and_eq_true, Bool.and_eq_false_iff] at hb) <;> (try (exfalso; first | omega | (cases hb; done)))) | (refine VC.cond (by rfl) (fun hb => ?_) (fun hb => ?_) <;> (try simp only [decide_eq_true_eq, decide_eq_false_iff_not, Bool.not_eq_true', Bool.not_eq_false', Bool.or_eq_true, Bool.or_eq_false_iff, Bool.and_eq_true, Bool.and_eq_false_iff] at hb) <;> (try (exfalso; first | omega | (cases hb; done)))) | (refine DSeq.litC2 (by rfl) (by rfl) (by rfl) (by rfl) (by rfl) (fun hb => ?_) (fun hb => ?_) <;> (try simp only [decide_eq_true_eq, decide_eq_false_iff_not, Bool.not_eq_true', Bool.not_eq_false', Bool.or_eq_true, Bool.or_eq_false_iff, Bool.and_eq_true, Bool.and_eq_false_iff] at hb) <;> (try (exfalso; first | omega | (cases hb; done)))))
    refine digs_ret trivial (by rfl) (by rfl) (by omega) fun i hi => ?_
    rcases Nat.lt_or_ge i (((k : Nat) : Int).toNat - 0 + 1) with h | h
    · rw [joinF_lt h]
      rcases Nat.lt_or_ge i (((k : Nat) : Int).toNat - 0) with h2 | h2
      · rw [joinF_lt h2]; exact dOk_dig hL (by omega)
      · rw [joinF_ge h2, show i - (((k : Nat) : Int).toNat - 0) = 0 by omega]; exact hd
    · rw [joinF_ge h]; exact dOk_dig hL (by omega)
  · refine Ok.of_vc tt_ok Tryd.func19 rfl rfl (by show 4 ≤ _; decide) 0 (fun i av h => by cases h) fun c0 => ?_
    repeat' (first | (refine SS_ ?_) | (refine Seq.lit (by rfl) (by rfl) LT2_ ?_) | (refine Seq.callq false (ca) Tryd.func10 GG_ SG_ (by rfl) rfl rfl rfl (by rfl) rfl VW_ NI_ NI_ FR_ ?_) | (refine Seq.callq false (ck) Tryd.func10 GG_ SG_ (by rfl) rfl rfl rfl (by rfl) rfl VW_ NI_ NI_ FR_ ?_) | (refine Seq.callq false (ch) Tryd.func10 GG_ SG_ (by rfl) rfl rfl rfl (by rfl) rfl VW_ NI_ NI_ FR_ ?_) | (refine VC.litT (by rfl) LTR_ ?_) | (refine VC.litF (by rfl) LFA_ ?_) | (refine DD_ ?_) | (refine DSeq.lit2 (by rfl) (by rfl) (by rfl) LT2_ (by rfl) ?_) | (refine DSeq.callq false (ca) Tryd.func10 GG_ SG_ (by rfl) (fastE (by rfl)) (fastH (by rfl)) (by rfl) rfl rfl rfl (by rfl) (by rfl) VW_ NI_ NI_ FR_ ?_) | (refine DSeq.callq false (ck) Tryd.func10 GG_ SG_ (by rfl) (fastE (by rfl)) (fastH (by rfl)) (by rfl) rfl rfl rfl (by rfl) (by rfl) VW_ NI_ NI_ FR_ ?_) | (refine DSeq.callq false (ch) Tryd.func10 GG_ SG_ (by rfl) (fastE (by rfl)) (fastH (by rfl)) (by rfl) rfl rfl rfl (by rfl) (by rfl) VW_ NI_ NI_ FR_ ?_) | ((refine retQ_ok (by rfl) [] nil_sub ⟨?_, rfl⟩); try rfl) | (refine Seq.litC (by rfl) (by rfl) (fun hb => ?_) (fun hb => ?_) <;> (try simp only [decide_eq_true_eq, decide_eq_false_iff_not, Bool.not_eq_true', Bool.not_eq_false', Bool.or_eq_true, Bool.or_eq_false_iff, Bool.and_eq_true, Bool.and_eq_false_iff] at hb) <;> (try (exfalso; first | omega | (cases hb; done)))) | (refine VC.cond (by rfl) (fun hb => ?_) (fun hb => ?_) <;> (try simp only [decide_eq_true_eq, decide_eq_false_iff_not, Bool.not_eq_true', Bool.not_eq_false', Bool.or_eq_true, Bool.or_eq_false_iff, Bool.and_eq_true, Bool.and_eq_false_iff] at hb) <;> (try (exfalso; first | omega | (cases hb; done)))) | (refine DSeq.litC2 (by rfl) (by rfl) (by rfl) (by rfl) (by rfl) (fun hb => ?_) (fun hb => ?_) <;> (try simp only [decide_eq_true_eq, decide_eq_false_iff_not, Bool.not_eq_true', Bool.not_eq_false', Bool.or_eq_true, Bool.or_eq_false_iff, Bool.and_eq_true, Bool.and_eq_false_iff] at hb) <;> (try (exfalso; first | omega | (cases hb; done)))))
    refine digs_ret trivial (by rfl) (by rfl) (by omega) fun i hi => ?_
    rcases Nat.lt_or_ge i L.length with h | h
    · rw [joinF_lt h]; exact dOk_dig hL h
    · rw [joinF_ge h, show i - L.length = 0 by omega]; exact dOk_dig hL (i := ((k : Nat) : Int).toNat) (by omega)
  · refine Ok.of_vc tt_ok Tryd.func19 rfl rfl (by show 4 ≤ _; decide) 0 (fun i av h => by cases h) fun c0 => ?_
    repeat' (first | (refine SS_ ?_) | (refine Seq.lit (by rfl) (by rfl) LT2_ ?_) | (refine Seq.callq false (ca) Tryd.func10 GG_ SG_ (by rfl) rfl rfl rfl (by rfl) rfl VW_ NI_ NI_ FR_ ?_) | (refine Seq.callq false (ck) Tryd.func10 GG_ SG_ (by rfl) rfl rfl rfl (by rfl) rfl VW_ NI_ NI_ FR_ ?_) | (refine Seq.callq false (ch) Tryd.func10 GG_ SG_ (by rfl) rfl rfl rfl (by rfl) rfl VW_ NI_ NI_ FR_ ?_) | (refine VC.litT (by rfl) LTR_ ?_) | (refine VC.litF (by rfl) LFA_ ?_) | (refine DD_ ?_) | (refine DSeq.lit2 (by rfl) (by rfl) (by rfl) LT2_ (by rfl) ?_) | (refine DSeq.callq false (ca) Tryd.func10 GG_ SG_ (by rfl) (fastE (by rfl)) (fastH (by rfl)) (by rfl) rfl rfl rfl (by rfl) (by rfl) VW_ NI_ NI_ FR_ ?_) | (refine DSeq.callq false (ck) Tryd.func10 GG_ SG_ (by rfl) (fastE (by rfl)) (fastH (by rfl)) (by rfl) rfl rfl rfl (by rfl) (by rfl) VW_ NI_ NI_ FR_ ?_) | (refine DSeq.callq false (ch) Tryd.func10 GG_ SG_ (by rfl) (fastE (by rfl)) (fastH (by rfl)) (by rfl) rfl rfl rfl (by rfl) (by rfl) VW_ NI_ NI_ FR_ ?_) | ((refine retQ_ok (by rfl) [] nil_sub ⟨?_, rfl⟩); try rfl) | (refine Seq.litC (by rfl) (by rfl) (fun hb => ?_) (fun hb => ?_) <;> (try simp only [decide_eq_true_eq, decide_eq_false_iff_not, Bool.not_eq_true', Bool.not_eq_false', Bool.or_eq_true, Bool.or_eq_false_iff, Bool.and_eq_true, Bool.and_eq_false_iff] at hb) <;> (try (exfalso; first | omega | (cases hb; done)))) | (refine VC.cond (by rfl) (fun hb => ?_) (fun hb => ?_) <;> (try simp only [decide_eq_true_eq, decide_eq_false_iff_not, Bool.not_eq_true', Bool.not_eq_false', Bool.or_eq_true, Bool.or_eq_false_iff, Bool.and_eq_true, Bool.and_eq_false_iff] at hb) <;> (try (exfalso; first | omega | (cases hb; done)))) | (refine DSeq.litC2 (by rfl) (by rfl) (by rfl) (by rfl) (by rfl) (fun hb => ?_) (fun hb => ?_) <;> (try simp only [decide_eq_true_eq, decide_eq_false_iff_not, Bool.not_eq_true', Bool.not_eq_false', Bool.or_eq_true, Bool.or_eq_false_iff, Bool.and_eq_true, Bool.and_eq_false_iff] at hb) <;> (try (exfalso; first | omega | (cases hb; done)))))
    · have hL2 : DigA (digA (L.getD (k + 1) [])) := dOk_dig hL (by omega)
      refine Seq.conv (Sim.impO 1 (v := .arr L.length 16 (fun i => digA ((L.set k (L.getD (k + 1) [])).getD i []))) (by rfl) (Imp.arr rfl fun i hi => Imp.of_eq ?_) (by rfl) (by rfl)) ?_
      · show digA _ = bif Nat.beq i (0 + ((k : Nat) : Int).toNat) then _ else _
        cases hq : Nat.beq i (0 + ((k : Nat) : Int).toNat)
        · rw [List.getD_eq_getElem?_getD, List.getElem?_set_ne (fun e => by rw [← e] at hq; simp at hq), ← List.getD_eq_getElem?_getD]; rfl
        · have := Nat.eq_of_beq_eq_true hq
          obtain rfl : i = k := by omega
          simp [hi]; rfl
      repeat' (first | (refine SS_ ?_) | (refine Seq.lit (by rfl) (by rfl) LT2_ ?_) | (refine VC.litT (by rfl) LTR_ ?_) | (refine VC.litF (by rfl) LFA_ ?_) | (refine DD_ ?_) | (refine DSeq.lit2 (by rfl) (by rfl) (by rfl) LT2_ (by rfl) ?_) | ((refine retQ_ok (by rfl) [] nil_sub ⟨?_, rfl⟩); try rfl) | (refine Seq.litC (by rfl) (by rfl) (fun hb => ?_) (fun hb => ?_) <;> (try simp only [decide_eq_true_eq, decide_eq_false_iff_not, Bool.not_eq_true', Bool.not_eq_false', Bool.or_eq_true, Bool.or_eq_false_iff, Bool.and_eq_true, Bool.and_eq_false_iff] at hb) <;> (try (exfalso; first | omega | (cases hb; done)))) | (refine VC.cond (by rfl) (fun hb => ?_) (fun hb => ?_) <;> (try simp only [decide_eq_true_eq, decide_eq_false_iff_not, Bool.not_eq_true', Bool.not_eq_false', Bool.or_eq_true, Bool.or_eq_false_iff, Bool.and_eq_true, Bool.and_eq_false_iff] at hb) <;> (try (exfalso; first | omega | (cases hb; done)))) | (refine DSeq.litC2 (by rfl) (by rfl) (by rfl) (by rfl) (by rfl) (fun hb => ?_) (fun hb => ?_) <;> (try simp only [decide_eq_true_eq, decide_eq_false_iff_not, Bool.not_eq_true', Bool.not_eq_false', Bool.or_eq_true, Bool.or_eq_false_iff, Bool.and_eq_true, Bool.and_eq_false_iff] at hb) <;> (try (exfalso; first | omega | (cases hb; done)))))
      refine digs_ret trivial (by rfl) (by rfl) (by omega) fun i hi => ?_
      show DigA (bif Nat.beq i (0 + (((k : Nat) : Int) + 1).toNat) then _ else _)
      cases hq : Nat.beq i (0 + (((k : Nat) : Int) + 1).toNat)
      · show DigA (digA ((L.set k (L.getD (k + 1) [])).getD i []))
        by_cases hik : i = k
        · subst hik
          simp [hi]
          simpa using hL2
        · rw [List.getD_eq_getElem?_getD, List.getElem?_set_ne (Ne.symm hik), ← List.getD_eq_getElem?_getD]
          exact dOk_dig hL hi
      · exact dOk_dig hL (i := ((k : Nat) : Int).toNat) (by omega)
    · refine digs_ret trivial (by rfl) (by rfl) (by omega) fun i hi => ?_
      exact dOk_dig hL hi
theorem spoilt_ok (L : List (List UInt8)) (hL : DOk L) (hl : L.length ≤ 1000000) (at_ how by_ : Int) (h1 : i64B at_) (h2 : i64B how) (h3 : i64B by_) : Ok Tryd.prog 19 [] [] (argsSp L at_ how by_) (fun r h' => ∃ L', r = digsT L' ∧ h' = [] ∧ DOk L' ∧ L'.length ≤ L.length + 1) :=
  digs_still (by omega) (spoilt_raw L hL hl at_ how by_ h1 h2 h3)
end Go.Proofs.YtbphmbmdkojbnaaDoor
