
/- Books of consent: Script, do. -/
import Derived.Test.YtnjchlggjdoboaaCn
import Derived.Test.YtnjchlggjdoboaaCp
set_option linter.unusedSimpArgs false
set_option linter.unusedVariables false
namespace Go.Cs
def doB (b : Bk) (a : ActS) : Bk := if a.K = 1 then rmB b a.N else if a.K = 2 then rnB b a.N else mkB b a.F a.P
def doE (b : Bk) (a : ActS) : Int := if a.K = 1 then rmE b a.N else if a.K = 2 then rnE b a.N else mkE b a.F a.P
def doN (b : Bk) (a : ActS) : Int := if a.K = 1 then 0 else if a.K = 2 then 0 else mkN b a.F a.P
def doL (b : Bk) (a : ActS) : List Int := if a.K = 1 then rmL b a.N else []
theorem good_do {b : Bk} (hb : BOk b) (a : ActS) : BOk (doB b a) := by
  unfold doB
  split
  · exact good_rm hb _
  split
  · exact good_rn hb _
  · exact good_mk hb _ _
end Go.Cs
namespace Go.Proofs.Ytnjchlggjdoboaa
open Go.V Go.RowKit Go.L Go.Cs Go.Dk
set_option maxRecDepth 10000
set_option maxHeartbeats 4000000
theorem remove_ok {b : Bk} (hb : BOk b) (p : Int) : Ok Try.prog 24 [] (bH b) (.pair (.ptr 0 []) (.pair (.int .i64 p) .nul)) (fun r h' => r = .tup (.pair (intsV (rmL b p)) (.pair (.int .i64 (rmE b p)) .nul)) ∧ h' = bH (rmB b p)) := by
  by_cases h : rmE b p = 0
  · exact remove0_ok b p h hb.n (base_len hb)
  · exact removeE_ok b p h
theorem renew_ok {b : Bk} (hb : BOk b) (i : Int) : RnIs b i := by
  by_cases h1 : badT b i
  · exact renew6_ok b i h1
  have h1' := h1
  unfold badT at h1'
  have hin : i.toNat < b.E.length := by omega
  have hf := (hb.f _ hin)
  have hF : (b.E.getD i.toNat entZ).F.length ≤ 256 := by
    have := inc_len (a := 0) (b := i.toNat) hf.1 hf.2
    have := hb.n; omega
  have hi : ∀ x ∈ (b.E.getD i.toNat entZ).F, 0 ≤ x ∧ x < b.E.length := fun x hx => by have := hf.2 x hx; omega
  cases hu : (b.E.getD i.toNat entZ).U with
  | true => exact renew8_ok b i h1 hu
  | false =>
    cases hs : stale b.E (b.E.getD i.toNat entZ).F with
    | true => exact renew17_ok b i h1 hu hs hF hi
    | false => exact renew0_ok b i h1 hu hs hF (hb.p _ hin).2.1 hi (base_len hb)
theorem rel_actsnoc {A : Nat → Prop} {σ : Nat → Nat} {o : List ActS} {a : ActS} {K : Nat → AV} {i : Nat} (hi : i < o.length + 1) (hK : K 0 = actA a := by rfl) : RelA A σ (actA ((o ++ [a]).getD i actZ)) (joinF o.length (fun i => actA (o.getD i actZ)) K i) := by
  rcases Nat.lt_or_ge i o.length with h1 | h1
  · rw [joinF_lt h1, app_lt h1]; exact NoId.self NI_
  · obtain rfl : i = o.length := by omega
    rw [joinF_ge (Nat.le_refl _), app_eq, Nat.sub_self, hK]; exact NoId.self NI_
theorem sim_then {F : Fr} {s s' s'' : St} (h1 : ∀ a w, Sim F s a w → Sim F s' a w) (h2 : ∀ a w, Sim F s' a w → Sim F s'' a w) : ∀ a w, Sim F s a w → Sim F s'' a w := fun a w h => h2 a w (h1 a w h)
theorem imp_actsnoc {o : List ActS} {a : ActS} {K : Nat → AV} {i : Nat} (hi : i < o.length + 1) (hK : Imp (actA a) (K 0)) : Imp (actA ((o ++ [a]).getD i actZ)) (joinF o.length (fun i => actA (o.getD i actZ)) K i) := by
  rcases Nat.lt_or_ge i o.length with h1 | h1
  · rw [joinF_lt h1, app_lt h1]; exact Imp.refl _
  · obtain rfl : i = o.length := by omega
    rw [joinF_ge (Nat.le_refl _), app_eq, Nat.sub_self]; exact hK
theorem view_acts {H : Asc} {bor D : Nat → Prop} {σ : Nat → Nat} {id n : Nat} {l : List ActS} (h : get? H id = some (.arr l.length 4 (fun i => actA (l.getD i actZ)))) (hb : bor id) (hn : l.length = n) : View H bor D σ (actsV l) (.sl id [] 4 0 n) := by
  subst hn
  exact View.sl h rfl trivial (by omega) hb fun i hi => by rw [Nat.zero_add]; exact NoId.self NI_
theorem script_ok (l : List Int) (hl : IOk l) : Ok Try.prog 13 [] [] (.pair (intsV l) .nul) (fun r h' => r = actsV (scr l) ∧ h' = []) := by
  have hl1 := hl.1
  have hN : scrN l ≤ 24 ∧ (scrN l = 24 ∨ l.length ≤ 12 * scrN l) := by unfold scrN; omega
  have hNk : ∀ k, k < scrN l → 12 * k < l.length := fun k hk => by unfold scrN at hk; omega
  have ca := fun k : Nat => at_ok l hl (12 * (k : Nat)) 9
  have cb := fun k : Nat => at_ok l hl (12 * (k : Nat) + 1) 9
  have cc := fun (k : Nat) (m : Int) => at_ok l hl (12 * (k : Nat) + 1) m
  have cd := fun (k : Nat) (m : Int) (h : k ≤ 24) => list_ok l hl (12 * (k : Nat) + 1) m (by omega)
  have ce := fun (k : Nat) (h : k ≤ 24) => list_ok l hl (12 * (k : Nat) + 6) 9 (by omega)
  have hlen := scrTo_len l
  unfold scr
  refine Ok.of_vcC tt_ok Try.func13 rfl rfl (by show 1 ≤ _; decide) 0 (hlt_ok (by rfl)) fun c0 => ?_
  repeat' (first | (refine SS_ ?_) | (done) | (refine Seq.lit (by rfl) (by rfl) LT2_ ?_) | (refine VC.litT (by rfl) LTR_ ?_) | (refine VC.litF (by rfl) LFA_ ?_) | (refine DD_ ?_) | (refine DSeq.lit2 (by rfl) (by rfl) (by rfl) LT2_ (by rfl) ?_) | ((refine retQ_ok (by rfl) [] nil_sub ⟨?_, rfl⟩); try rfl) | (refine Seq.litC (by rfl) (by rfl) (fun hb => ?_) (fun hb => ?_) <;> (fail_if_success (with_reducible have := litT_ hb)) <;> (fail_if_success (with_reducible have := litF_ hb)) <;> (try simp only [decide_eq_true_eq, decide_eq_false_iff_not, Bool.not_eq_true', Bool.not_eq_false', Bool.or_eq_true, Bool.or_eq_false_iff, Bool.and_eq_true, Bool.and_eq_false_iff] at hb) <;> (try (exfalso; first | omega | (cases hb; done)))) | (refine VC.cond (by rfl) (fun hb => ?_) (fun hb => ?_) <;> (fail_if_success (with_reducible have := litT_ hb)) <;> (fail_if_success (with_reducible have := litF_ hb)) <;> (try simp only [decide_eq_true_eq, decide_eq_false_iff_not, Bool.not_eq_true', Bool.not_eq_false', Bool.or_eq_true, Bool.or_eq_false_iff, Bool.and_eq_true, Bool.and_eq_false_iff] at hb) <;> (try (exfalso; first | omega | (cases hb; done)))) | (refine DSeq.litC2 (by rfl) (by rfl) (by rfl) (by rfl) (by rfl) (fun hb => ?_) (fun hb => ?_) <;> (fail_if_success (with_reducible have := litT_ hb)) <;> (fail_if_success (with_reducible have := litF_ hb)) <;> (try simp only [decide_eq_true_eq, decide_eq_false_iff_not, Bool.not_eq_true', Bool.not_eq_false', Bool.or_eq_true, Bool.or_eq_false_iff, Bool.and_eq_true, Bool.and_eq_false_iff] at hb) <;> (try (exfalso; first | omega | (cases hb; done)))))
  refine VC.conv (Sim.ghost 3 4 (fun i => actA (([] : List ActS).getD i actZ)) (by rfl) (.inl rfl)) ?_
  refine VC.loop (fun k : Nat => ⟨[(5, .int .i64 (k : Nat)), (4, .int .i64 ((scrTo l k).2 : Nat)), (3, .sl 0 [] 4 0 (scrTo l k).1.length), (0, intsV l)], [(0, .arr (scrTo l k).1.length 4 (fun i => actA ((scrTo l k).1.getD i actZ)))], [], 1⟩) (fun k => k ≤ scrN l) (fun k => scrN l - k) 0 (by omega) (by
    refine Sim.less [] (by rfl) ?_ ?_ <;> (repeat' (first | exact EnvLe.nil | exact HeapLe.nil | with_reducible apply EnvLe.cons | with_reducible apply HeapLe.cons | (with_reducible refine RelA.int ?_; first | (refine Keep.mk ?_; first | with_reducible rfl | omega | decide) | skip) | exact rfl | exact ⟨rfl, rfl⟩ | (with_reducible refine RelA.rsl ?_; intro i hi) | (with_reducible refine RelA.arr ?_; intro i hi) | with_reducible refine RelA.pair ?_ ?_ | with_reducible refine RelA.rptr ?_ | (with_reducible refine RelA.rslw ?_; intro i hi) | (refine RelA.rsl ?_; intro i hi) | (refine RelA.rslw ?_; intro i hi) | (refine RelA.arr ?_; intro i hi) | refine RelA.pair ?_ ?_ | refine RelA.tup ?_ | ((first | refine RelA.rslL (by first | rfl | ((try simp only [List.length_take, List.length_drop, List.length_append, List.length_cons, List.length_nil, List.length_map, List.length_range]); omega)) ?_ | refine RelA.rslT (by first | rfl | ((try simp only [List.length_take, List.length_drop, List.length_append, List.length_cons, List.length_nil, List.length_map, List.length_range]); omega)) ?_ | refine RelA.arrL (by first | rfl | ((try simp only [List.length_take, List.length_drop, List.length_append, List.length_cons, List.length_nil, List.length_map, List.length_range]); omega)) ?_); intro i hi; (try simp only [List.length_take, List.length_drop] at hi); (try simp (disch := omega) only [getD_take, getD_drop, Nat.zero_add, Int.toNat_natCast])) | exact RelA.bif_int | refine RelA.fn ?_ ?_ | exact NoId.self (by first | ((repeat' (first | exact trivial | exact rfl | refine NoFr.bif ?_ ?_ | refine NoId.bif ?_ ?_ | refine AllFr.bif ?_ ?_ | (intro i hi) | (refine ⟨?_, ?_⟩) | (intro e; cases e; done))); done) | fail))) <;> (try with_reducible refine Keep.mk ?_)
    all_goals exact rfl) fun k hk => ?_
  obtain ⟨n1, n2⟩ := hlen k
  by_cases hkN : k < scrN l
  · have h12 := hNk k hkN
    have ca := ca k
    have hx := at_lt l (12 * (k : Nat)) 9 (by decide)
    have hstep : scrTo l (k + 1) = if atI l (12 * (k : Nat)) 9 < 5 then ((scrTo l k).1 ++ [⟨0, 0, listS l (12 * (k : Nat) + 1) (scrTo l k).2, listS l (12 * (k : Nat) + 6) 9⟩], (scrTo l k).2 + 1) else if atI l (12 * (k : Nat)) 9 < 7 then ((scrTo l k).1 ++ [⟨1, atI l (12 * (k : Nat) + 1) 9, [], []⟩], (scrTo l k).2) else ((scrTo l k).1 ++ [⟨2, atI l (12 * (k : Nat) + 1) ((scrTo l k).2 + 1), [], []⟩], (scrTo l k).2) := rfl
    generalize hT2 : scrTo l (k + 1) = T2 at *
    generalize scrTo l k = T at *
    generalize atI l (12 * (k : Nat)) 9 = x at *
    by_cases h5 : x < 5
    · rw [if_pos h5] at hstep
      have cd := cd k T.2 (by omega)
      have ce := ce k (by omega)
      generalize listS l (12 * (k : Nat) + 1) T.2 = A at *
      generalize listS l (12 * (k : Nat) + 6) 9 = B at *
      repeat' (first | (refine SS_ ?_) | (refine Seq.callp false (ca) Try.func10 GOk.nil subG.nil (by rfl) (by rfl) rfl rfl rfl rfl rfl (by rfl) rfl VW_ NI_ NI_ FR_ ?_) | (refine Seq.callp false (cd) Try.func36 GOk.nil subG.nil (by rfl) (by rfl) rfl rfl rfl rfl rfl (by rfl) rfl VW_ NI_ NI_ FR_ ?_) | (refine Seq.callp false (ce) Try.func36 GOk.nil subG.nil (by rfl) (by rfl) rfl rfl rfl rfl rfl (by rfl) rfl VW_ NI_ NI_ FR_ ?_) | (refine Seq.lit (by rfl) (by rfl) LT2_ ?_) | (refine VC.litT (by rfl) LTR_ ?_) | (refine VC.litF (by rfl) LFA_ ?_) | (refine DD_ ?_) | (refine DSeq.lit2 (by rfl) (by rfl) (by rfl) LT2_ (by rfl) ?_) | ((refine retQ_ok (by rfl) [] nil_sub ⟨?_, rfl⟩); try rfl) | (refine Seq.litC (by rfl) (by rfl) (fun hb => ?_) (fun hb => ?_) <;> (fail_if_success (with_reducible have := litT_ hb)) <;> (fail_if_success (with_reducible have := litF_ hb)) <;> (try simp only [decide_eq_true_eq, decide_eq_false_iff_not, Bool.not_eq_true', Bool.not_eq_false', Bool.or_eq_true, Bool.or_eq_false_iff, Bool.and_eq_true, Bool.and_eq_false_iff] at hb) <;> (try (exfalso; first | omega | (cases hb; done)))) | (refine VC.cond (by rfl) (fun hb => ?_) (fun hb => ?_) <;> (fail_if_success (with_reducible have := litT_ hb)) <;> (fail_if_success (with_reducible have := litF_ hb)) <;> (try simp only [decide_eq_true_eq, decide_eq_false_iff_not, Bool.not_eq_true', Bool.not_eq_false', Bool.or_eq_true, Bool.or_eq_false_iff, Bool.and_eq_true, Bool.and_eq_false_iff] at hb) <;> (try (exfalso; first | omega | (cases hb; done)))) | (refine DSeq.litC2 (by rfl) (by rfl) (by rfl) (by rfl) (by rfl) (fun hb => ?_) (fun hb => ?_) <;> (fail_if_success (with_reducible have := litT_ hb)) <;> (fail_if_success (with_reducible have := litF_ hb)) <;> (try simp only [decide_eq_true_eq, decide_eq_false_iff_not, Bool.not_eq_true', Bool.not_eq_false', Bool.or_eq_true, Bool.or_eq_false_iff, Bool.and_eq_true, Bool.and_eq_false_iff] at hb) <;> (try (exfalso; first | omega | (cases hb; done)))))
      refine ⟨k + 1, by omega, by omega, ?_⟩
      rw [hT2, hstep]
      show ∀ a_1 w, _ → Sim _ ⟨[(5, .int .i64 ((k + 1 : Nat) : Int)), (4, .int .i64 ((T.2 + 1 : Nat) : Int)), (3, .sl 0 [] 4 0 (T.1 ++ [(⟨0, 0, A, B⟩ : ActS)]).length), (0, intsV l)], [(0, .arr (T.1 ++ [(⟨0, 0, A, B⟩ : ActS)]).length 4 (fun i => actA ((T.1 ++ [(⟨0, 0, A, B⟩ : ActS)]).getD i actZ)))], [], 1⟩ a_1 w
      rw [List.length_append, List.length_singleton]
      refine Sim.less [(0, 2)] (by rfl) ?_ ?_ <;> (repeat' (first | exact EnvLe.nil | exact HeapLe.nil | with_reducible apply EnvLe.cons | with_reducible apply HeapLe.cons | (with_reducible refine RelA.int ?_; first | (refine Keep.mk ?_; first | with_reducible rfl | omega | decide) | skip) | exact rfl | exact ⟨rfl, rfl⟩ | (with_reducible refine RelA.rsl ?_; intro i hi) | (with_reducible refine RelA.arr ?_; intro i hi) | with_reducible refine RelA.pair ?_ ?_ | with_reducible refine RelA.rptr ?_ | (with_reducible refine RelA.rslw ?_; intro i hi) | (refine RelA.rsl ?_; intro i hi) | (refine RelA.rslw ?_; intro i hi) | (refine RelA.arr ?_; intro i hi) | refine RelA.pair ?_ ?_ | refine RelA.tup ?_ | ((first | refine RelA.rslL (by first | rfl | ((try simp only [List.length_take, List.length_drop, List.length_append, List.length_cons, List.length_nil, List.length_map, List.length_range]); omega)) ?_ | refine RelA.rslT (by first | rfl | ((try simp only [List.length_take, List.length_drop, List.length_append, List.length_cons, List.length_nil, List.length_map, List.length_range]); omega)) ?_ | refine RelA.arrL (by first | rfl | ((try simp only [List.length_take, List.length_drop, List.length_append, List.length_cons, List.length_nil, List.length_map, List.length_range]); omega)) ?_); intro i hi; (try simp only [List.length_take, List.length_drop] at hi); (try simp (disch := omega) only [getD_take, getD_drop, Nat.zero_add, Int.toNat_natCast])) | exact RelA.bif_int | refine RelA.fn ?_ ?_ | exact NoId.self (by first | ((repeat' (first | exact trivial | exact rfl | refine NoFr.bif ?_ ?_ | refine NoId.bif ?_ ?_ | refine AllFr.bif ?_ ?_ | (intro i hi) | (refine ⟨?_, ?_⟩) | (intro e; cases e; done))); done) | fail))) <;> (try with_reducible refine Keep.mk ?_)
      exact rel_actsnoc hi
    rw [if_neg h5] at hstep
    by_cases h7 : x < 7
    · rw [if_pos h7] at hstep
      have cb := cb k
      generalize atI l (12 * (k : Nat) + 1) 9 = y at *
      repeat' (first | (refine SS_ ?_) | (refine Seq.callp false (ca) Try.func10 GOk.nil subG.nil (by rfl) (by rfl) rfl rfl rfl rfl rfl (by rfl) rfl VW_ NI_ NI_ FR_ ?_) | (refine Seq.callp false (cb) Try.func10 GOk.nil subG.nil (by rfl) (by rfl) rfl rfl rfl rfl rfl (by rfl) rfl VW_ NI_ NI_ FR_ ?_) | (refine Seq.lit (by rfl) (by rfl) LT2_ ?_) | (refine VC.litT (by rfl) LTR_ ?_) | (refine VC.litF (by rfl) LFA_ ?_) | (refine DD_ ?_) | (refine DSeq.lit2 (by rfl) (by rfl) (by rfl) LT2_ (by rfl) ?_) | ((refine retQ_ok (by rfl) [] nil_sub ⟨?_, rfl⟩); try rfl) | (refine Seq.litC (by rfl) (by rfl) (fun hb => ?_) (fun hb => ?_) <;> (fail_if_success (with_reducible have := litT_ hb)) <;> (fail_if_success (with_reducible have := litF_ hb)) <;> (try simp only [decide_eq_true_eq, decide_eq_false_iff_not, Bool.not_eq_true', Bool.not_eq_false', Bool.or_eq_true, Bool.or_eq_false_iff, Bool.and_eq_true, Bool.and_eq_false_iff] at hb) <;> (try (exfalso; first | omega | (cases hb; done)))) | (refine VC.cond (by rfl) (fun hb => ?_) (fun hb => ?_) <;> (fail_if_success (with_reducible have := litT_ hb)) <;> (fail_if_success (with_reducible have := litF_ hb)) <;> (try simp only [decide_eq_true_eq, decide_eq_false_iff_not, Bool.not_eq_true', Bool.not_eq_false', Bool.or_eq_true, Bool.or_eq_false_iff, Bool.and_eq_true, Bool.and_eq_false_iff] at hb) <;> (try (exfalso; first | omega | (cases hb; done)))) | (refine DSeq.litC2 (by rfl) (by rfl) (by rfl) (by rfl) (by rfl) (fun hb => ?_) (fun hb => ?_) <;> (fail_if_success (with_reducible have := litT_ hb)) <;> (fail_if_success (with_reducible have := litF_ hb)) <;> (try simp only [decide_eq_true_eq, decide_eq_false_iff_not, Bool.not_eq_true', Bool.not_eq_false', Bool.or_eq_true, Bool.or_eq_false_iff, Bool.and_eq_true, Bool.and_eq_false_iff] at hb) <;> (try (exfalso; first | omega | (cases hb; done)))))
      refine ⟨k + 1, by omega, by omega, ?_⟩
      rw [hT2, hstep]
      show ∀ a_1 w, _ → Sim _ ⟨[(5, .int .i64 ((k + 1 : Nat) : Int)), (4, .int .i64 ((T.2 : Nat) : Int)), (3, .sl 0 [] 4 0 (T.1 ++ [(⟨1, y, [], []⟩ : ActS)]).length), (0, intsV l)], [(0, .arr (T.1 ++ [(⟨1, y, [], []⟩ : ActS)]).length 4 (fun i => actA ((T.1 ++ [(⟨1, y, [], []⟩ : ActS)]).getD i actZ)))], [], 1⟩ a_1 w
      rw [List.length_append, List.length_singleton]
      refine sim_then (Sim.impO 2 (v := .arr (T.1.length + 1) 4 (fun i => actA ((T.1 ++ [(⟨1, y, [], []⟩ : ActS)]).getD i actZ))) (by rfl) (Imp.arr rfl fun i hi => imp_actsnoc hi (Imp.pair (Imp.refl _) (Imp.pair (Imp.refl _) (Imp.pair (Imp.pair Imp.nil (Imp.pair Imp.nil (Imp.refl _))) (Imp.refl _))))) (by rfl) (by rfl)) ?_
      refine Sim.less [(0, 2)] (by rfl) ?_ ?_ <;> (repeat' (first | exact EnvLe.nil | exact HeapLe.nil | with_reducible apply EnvLe.cons | with_reducible apply HeapLe.cons | (with_reducible refine RelA.int ?_; first | (refine Keep.mk ?_; first | with_reducible rfl | omega | decide) | skip) | exact rfl | exact ⟨rfl, rfl⟩ | (with_reducible refine RelA.rsl ?_; intro i hi) | (with_reducible refine RelA.arr ?_; intro i hi) | with_reducible refine RelA.pair ?_ ?_ | with_reducible refine RelA.rptr ?_ | (with_reducible refine RelA.rslw ?_; intro i hi) | (refine RelA.rsl ?_; intro i hi) | (refine RelA.rslw ?_; intro i hi) | (refine RelA.arr ?_; intro i hi) | refine RelA.pair ?_ ?_ | refine RelA.tup ?_ | ((first | refine RelA.rslL (by first | rfl | ((try simp only [List.length_take, List.length_drop, List.length_append, List.length_cons, List.length_nil, List.length_map, List.length_range]); omega)) ?_ | refine RelA.rslT (by first | rfl | ((try simp only [List.length_take, List.length_drop, List.length_append, List.length_cons, List.length_nil, List.length_map, List.length_range]); omega)) ?_ | refine RelA.arrL (by first | rfl | ((try simp only [List.length_take, List.length_drop, List.length_append, List.length_cons, List.length_nil, List.length_map, List.length_range]); omega)) ?_); intro i hi; (try simp only [List.length_take, List.length_drop] at hi); (try simp (disch := omega) only [getD_take, getD_drop, Nat.zero_add, Int.toNat_natCast])) | exact RelA.bif_int | refine RelA.fn ?_ ?_ | exact NoId.self (by first | ((repeat' (first | exact trivial | exact rfl | refine NoFr.bif ?_ ?_ | refine NoId.bif ?_ ?_ | refine AllFr.bif ?_ ?_ | (intro i hi) | (refine ⟨?_, ?_⟩) | (intro e; cases e; done))); done) | fail))) <;> (try with_reducible refine Keep.mk ?_)
    · rw [if_neg h7] at hstep
      have cc := cc k (T.2 + 1)
      generalize atI l (12 * (k : Nat) + 1) (T.2 + 1) = y at *
      repeat' (first | (refine SS_ ?_) | (refine Seq.callp false (ca) Try.func10 GOk.nil subG.nil (by rfl) (by rfl) rfl rfl rfl rfl rfl (by rfl) rfl VW_ NI_ NI_ FR_ ?_) | (refine Seq.callp false (cc) Try.func10 GOk.nil subG.nil (by rfl) (by rfl) rfl rfl rfl rfl rfl (by rfl) rfl VW_ NI_ NI_ FR_ ?_) | (refine Seq.lit (by rfl) (by rfl) LT2_ ?_) | (refine VC.litT (by rfl) LTR_ ?_) | (refine VC.litF (by rfl) LFA_ ?_) | (refine DD_ ?_) | (refine DSeq.lit2 (by rfl) (by rfl) (by rfl) LT2_ (by rfl) ?_) | ((refine retQ_ok (by rfl) [] nil_sub ⟨?_, rfl⟩); try rfl) | (refine Seq.litC (by rfl) (by rfl) (fun hb => ?_) (fun hb => ?_) <;> (fail_if_success (with_reducible have := litT_ hb)) <;> (fail_if_success (with_reducible have := litF_ hb)) <;> (try simp only [decide_eq_true_eq, decide_eq_false_iff_not, Bool.not_eq_true', Bool.not_eq_false', Bool.or_eq_true, Bool.or_eq_false_iff, Bool.and_eq_true, Bool.and_eq_false_iff] at hb) <;> (try (exfalso; first | omega | (cases hb; done)))) | (refine VC.cond (by rfl) (fun hb => ?_) (fun hb => ?_) <;> (fail_if_success (with_reducible have := litT_ hb)) <;> (fail_if_success (with_reducible have := litF_ hb)) <;> (try simp only [decide_eq_true_eq, decide_eq_false_iff_not, Bool.not_eq_true', Bool.not_eq_false', Bool.or_eq_true, Bool.or_eq_false_iff, Bool.and_eq_true, Bool.and_eq_false_iff] at hb) <;> (try (exfalso; first | omega | (cases hb; done)))) | (refine DSeq.litC2 (by rfl) (by rfl) (by rfl) (by rfl) (by rfl) (fun hb => ?_) (fun hb => ?_) <;> (fail_if_success (with_reducible have := litT_ hb)) <;> (fail_if_success (with_reducible have := litF_ hb)) <;> (try simp only [decide_eq_true_eq, decide_eq_false_iff_not, Bool.not_eq_true', Bool.not_eq_false', Bool.or_eq_true, Bool.or_eq_false_iff, Bool.and_eq_true, Bool.and_eq_false_iff] at hb) <;> (try (exfalso; first | omega | (cases hb; done)))))
      refine ⟨k + 1, by omega, by omega, ?_⟩
      rw [hT2, hstep]
      show ∀ a_1 w, _ → Sim _ ⟨[(5, .int .i64 ((k + 1 : Nat) : Int)), (4, .int .i64 ((T.2 : Nat) : Int)), (3, .sl 0 [] 4 0 (T.1 ++ [(⟨2, y, [], []⟩ : ActS)]).length), (0, intsV l)], [(0, .arr (T.1 ++ [(⟨2, y, [], []⟩ : ActS)]).length 4 (fun i => actA ((T.1 ++ [(⟨2, y, [], []⟩ : ActS)]).getD i actZ)))], [], 1⟩ a_1 w
      rw [List.length_append, List.length_singleton]
      refine sim_then (Sim.impO 2 (v := .arr (T.1.length + 1) 4 (fun i => actA ((T.1 ++ [(⟨2, y, [], []⟩ : ActS)]).getD i actZ))) (by rfl) (Imp.arr rfl fun i hi => imp_actsnoc hi (Imp.pair (Imp.refl _) (Imp.pair (Imp.refl _) (Imp.pair (Imp.pair Imp.nil (Imp.pair Imp.nil (Imp.refl _))) (Imp.refl _))))) (by rfl) (by rfl)) ?_
      refine Sim.less [(0, 2)] (by rfl) ?_ ?_ <;> (repeat' (first | exact EnvLe.nil | exact HeapLe.nil | with_reducible apply EnvLe.cons | with_reducible apply HeapLe.cons | (with_reducible refine RelA.int ?_; first | (refine Keep.mk ?_; first | with_reducible rfl | omega | decide) | skip) | exact rfl | exact ⟨rfl, rfl⟩ | (with_reducible refine RelA.rsl ?_; intro i hi) | (with_reducible refine RelA.arr ?_; intro i hi) | with_reducible refine RelA.pair ?_ ?_ | with_reducible refine RelA.rptr ?_ | (with_reducible refine RelA.rslw ?_; intro i hi) | (refine RelA.rsl ?_; intro i hi) | (refine RelA.rslw ?_; intro i hi) | (refine RelA.arr ?_; intro i hi) | refine RelA.pair ?_ ?_ | refine RelA.tup ?_ | ((first | refine RelA.rslL (by first | rfl | ((try simp only [List.length_take, List.length_drop, List.length_append, List.length_cons, List.length_nil, List.length_map, List.length_range]); omega)) ?_ | refine RelA.rslT (by first | rfl | ((try simp only [List.length_take, List.length_drop, List.length_append, List.length_cons, List.length_nil, List.length_map, List.length_range]); omega)) ?_ | refine RelA.arrL (by first | rfl | ((try simp only [List.length_take, List.length_drop, List.length_append, List.length_cons, List.length_nil, List.length_map, List.length_range]); omega)) ?_); intro i hi; (try simp only [List.length_take, List.length_drop] at hi); (try simp (disch := omega) only [getD_take, getD_drop, Nat.zero_add, Int.toNat_natCast])) | exact RelA.bif_int | refine RelA.fn ?_ ?_ | exact NoId.self (by first | ((repeat' (first | exact trivial | exact rfl | refine NoFr.bif ?_ ?_ | refine NoId.bif ?_ ?_ | refine AllFr.bif ?_ ?_ | (intro i hi) | (refine ⟨?_, ?_⟩) | (intro e; cases e; done))); done) | fail))) <;> (try with_reducible refine Keep.mk ?_)
  · obtain rfl : k = scrN l := by omega
    generalize scrTo l (scrN l) = T at *
    repeat' (first | (refine SS_ ?_) | (done) | (refine Seq.lit (by rfl) (by rfl) LT2_ ?_) | (refine VC.litT (by rfl) LTR_ ?_) | (refine VC.litF (by rfl) LFA_ ?_) | (refine DD_ ?_) | (refine DSeq.lit2 (by rfl) (by rfl) (by rfl) LT2_ (by rfl) ?_) | ((refine retQ_ok (by rfl) [] nil_sub ⟨?_, rfl⟩); try rfl) | (refine Seq.litC (by rfl) (by rfl) (fun hb => ?_) (fun hb => ?_) <;> (fail_if_success (with_reducible have := litT_ hb)) <;> (fail_if_success (with_reducible have := litF_ hb)) <;> (try simp only [decide_eq_true_eq, decide_eq_false_iff_not, Bool.not_eq_true', Bool.not_eq_false', Bool.or_eq_true, Bool.or_eq_false_iff, Bool.and_eq_true, Bool.and_eq_false_iff] at hb) <;> (try (exfalso; first | omega | (cases hb; done)))) | (refine VC.cond (by rfl) (fun hb => ?_) (fun hb => ?_) <;> (fail_if_success (with_reducible have := litT_ hb)) <;> (fail_if_success (with_reducible have := litF_ hb)) <;> (try simp only [decide_eq_true_eq, decide_eq_false_iff_not, Bool.not_eq_true', Bool.not_eq_false', Bool.or_eq_true, Bool.or_eq_false_iff, Bool.and_eq_true, Bool.and_eq_false_iff] at hb) <;> (try (exfalso; first | omega | (cases hb; done)))) | (refine DSeq.litC2 (by rfl) (by rfl) (by rfl) (by rfl) (by rfl) (fun hb => ?_) (fun hb => ?_) <;> (fail_if_success (with_reducible have := litT_ hb)) <;> (fail_if_success (with_reducible have := litF_ hb)) <;> (try simp only [decide_eq_true_eq, decide_eq_false_iff_not, Bool.not_eq_true', Bool.not_eq_false', Bool.or_eq_true, Bool.or_eq_false_iff, Bool.and_eq_true, Bool.and_eq_false_iff] at hb) <;> (try (exfalso; first | omega | (cases hb; done)))))
    all_goals
      refine retC_conv (Sim.stillV (e' := [(2, actsV T.1)]) (h' := []) [0] (by rfl) (by repeat' (first | exact HeapV.nil | refine HeapV.cons (by rfl) VW_ NI_ (by rfl) ?_)) (EnvV.cons (by rfl) (view_acts (by rfl) ⟨rfl, rfl⟩ rfl) NI_ EnvV.nil)) ?_
      (refine retC_mk ([(2, actsV T.1)]) ([]) 1 (Sim.less [] (by rfl) R_ R_) (retQ_ok (by rfl) ([]) (fun i av h => h) ⟨?_, ?_⟩)) <;> rfl
end Go.Proofs.Ytnjchlggjdoboaa
