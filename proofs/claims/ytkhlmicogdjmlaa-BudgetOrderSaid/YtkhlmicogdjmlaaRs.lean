
/- Budgets: a book and the reference's one. -/
import Derived.Test.YtkhlmicogdjmlaaRr
set_option linter.unusedSimpArgs false
set_option linter.unusedVariables false
namespace Go.Bg
open Go.Rt
theorem cmp_self (a : Rq) : cmpR a a = 0 := by
  unfold cmpR
  rw [if_pos rfl]
  split <;> rfl
end Go.Bg
namespace Go.Proofs.Ytkhlmicogdjmlaa
open Go.V Go.RowKit Go.L Go.Lx Go.Rt Go.Bg
set_option maxRecDepth 10000
set_option maxHeartbeats 4000000
abbrev rcA (a o w r : Nat) : AV := .pair (.sl 6 [] 2 0 a) (.pair (.sl 7 [] 2 0 a) (.pair (.sl 8 [] 1 0 w) (.pair (.sl 9 [] 1 0 r) (.pair (.sl 10 [] 2 0 o) (.pair (.sl 11 [] 2 0 o) .nul)))))
abbrev rcH (b : Bk) : Asc := [(5, rcA b.A.length b.O.length b.W.length b.R.length), (6, .arr b.A.length 2 (fun i => ratA (b.A.getD i accZ).L)), (7, .arr b.A.length 2 (fun i => ratA (b.A.getD i accZ).U)), (8, liO b.W), (9, boO b.R), (10, .arr b.O.length 2 (fun i => ratA (b.O.getD i accZ).L)), (11, .arr b.O.length 2 (fun i => ratA (b.O.getD i accZ).U))]
/-- The memory of a law: a book, and the reference's one. -/
abbrev lH (b : Bk) : Asc := [(0, bkA b.A.length b.O.length b.W.length b.R.length), (1, acsO b.A), (2, acsO b.O), (3, liO b.W), (4, boO b.R), (5, rcA b.A.length b.O.length b.W.length b.R.length), (6, .arr b.A.length 2 (fun i => ratA (b.A.getD i accZ).L)), (7, .arr b.A.length 2 (fun i => ratA (b.A.getD i accZ).U)), (8, liO b.W), (9, boO b.R), (10, .arr b.O.length 2 (fun i => ratA (b.O.getD i accZ).L)), (11, .arr b.O.length 2 (fun i => ratA (b.O.getD i accZ).U))]
theorem same_ok (a b : Rq) (ha : valid a = true) (hb : valid b = true) : Ok Try.prog 24 [] [] (.pair (ratA a) (.pair (ratA b) .nul)) (fun v h' => v = .bool (decide (cmpR a b = 0)) ∧ h' = []) := by
  have c1 := cmp_ok a b (valid_r64 ha) (valid_r64 hb) ha hb
  generalize cmpR a b = q at *
  refine Ok.of_vcC tt_ok Try.func24 rfl rfl (by show 2 ≤ _; decide) 0 (hlt_ok (by rfl)) fun c0 => ?_
  repeat' (first | (refine SS_ ?_) | (refine Seq.callp false (c1) Try.func22 GOk.nil subG.nil (by rfl) (by rfl) rfl rfl rfl rfl rfl (by rfl) rfl VW_ NI_ NI_ FR_ ?_) | (refine Seq.lit (by rfl) (by rfl) LT2_ ?_) | (refine VC.litT (by rfl) LTR_ ?_) | (refine VC.litF (by rfl) LFA_ ?_) | (refine DD_ ?_) | (refine DSeq.lit2 (by rfl) (by rfl) (by rfl) LT2_ (by rfl) ?_) | ((refine retQ_ok (by rfl) [] nil_sub ⟨?_, rfl⟩); try rfl) | (refine Seq.litC (by rfl) (by rfl) (fun hb => ?_) (fun hb => ?_) <;> (fail_if_success (with_reducible have := litT_ hb)) <;> (fail_if_success (with_reducible have := litF_ hb)) <;> (try simp only [decide_eq_true_eq, decide_eq_false_iff_not, Bool.not_eq_true', Bool.not_eq_false', Bool.or_eq_true, Bool.or_eq_false_iff, Bool.and_eq_true, Bool.and_eq_false_iff] at hb) <;> (try (exfalso; first | omega | (cases hb; done)))) | (refine VC.cond (by rfl) (fun hb => ?_) (fun hb => ?_) <;> (fail_if_success (with_reducible have := litT_ hb)) <;> (fail_if_success (with_reducible have := litF_ hb)) <;> (try simp only [decide_eq_true_eq, decide_eq_false_iff_not, Bool.not_eq_true', Bool.not_eq_false', Bool.or_eq_true, Bool.or_eq_false_iff, Bool.and_eq_true, Bool.and_eq_false_iff] at hb) <;> (try (exfalso; first | omega | (cases hb; done)))) | (refine DSeq.litC2 (by rfl) (by rfl) (by rfl) (by rfl) (by rfl) (fun hb => ?_) (fun hb => ?_) <;> (fail_if_success (with_reducible have := litT_ hb)) <;> (fail_if_success (with_reducible have := litF_ hb)) <;> (try simp only [decide_eq_true_eq, decide_eq_false_iff_not, Bool.not_eq_true', Bool.not_eq_false', Bool.or_eq_true, Bool.or_eq_false_iff, Bool.and_eq_true, Bool.and_eq_false_iff] at hb) <;> (try (exfalso; first | omega | (cases hb; done)))))
  (refine retC_mk ([(4, .bool (decide (q = 0)))]) ([]) 2 (Sim.less [] (by rfl) R_ R_) (retQ_ok (by rfl) ([]) (fun i av h => h) ⟨?_, ?_⟩)) <;> rfl
theorem same_self (a : Rq) (ha : valid a = true) : Ok Try.prog 24 [] [] (.pair (ratA a) (.pair (ratA a) .nul)) (fun v h' => v = .bool true ∧ h' = []) := by
  have h := same_ok a a ha ha
  rw [cmp_self, decide_eq_true rfl] at h
  exact h
theorem us_in {l : List Bg.Acc} {i : Int} (h0 : 0 ≤ i) (h1 : i < l.length) : usV l i = (l.getD (0 + i.toNat) accZ).U ∧ usE l i = 0 := by
  unfold usV usE
  rw [if_neg (by omega), if_neg (by omega), Nat.zero_add]
  exact ⟨rfl, rfl⟩
end Go.Proofs.Ytkhlmicogdjmlaa
