
/- Budgets: scripts of acts on books, one after the other. -/
import Derived.Test.YtkhlmicogdjmlaaPd
import Derived.Test.YtkhlmicogdjmlaaRz
set_option linter.unusedSimpArgs false
set_option linter.unusedVariables false
namespace Go.Bg
open Go.Rt Go.Lx
def runTo (A : List ActS) (b : Bk) : Nat → Bk
  | 0 => b
  | k + 1 => doB (runTo A b k) (A.getD k actZ)
theorem run_bok {A : List ActS} {b : Bk} (hb : BOk b) (hA : ∀ k, (A.getD k actZ).P.length ≤ 256) : ∀ k, BOk (runTo A b k)
  | 0 => hb
  | k + 1 => do_bok (run_bok hb hA k) (hA k)
end Go.Bg
namespace Go.Proofs.Ytkhlmicogdjmlaa
open Go.V Go.RowKit Go.L Go.Lx Go.Rt Go.Bg
set_option maxRecDepth 10000
set_option maxHeartbeats 4000000
theorem bg_len (l : List Int) : ((bg l).A.length = (1 + atI l 0 6).toNat) ∧ (bg l).O.length = (1 + atI l 1 3).toNat := by
  constructor
  · show (accs (bgP l)).length = _
    rw [accs_len, costs_len]
  · show (accs (bgO l)).length = _
    rw [accs_len, costs_len]
theorem bg_small (l : List Int) : (1 ≤ (bg l).A.length ∧ (bg l).A.length ≤ 6) ∧ 1 ≤ (bg l).O.length ∧ (bg l).O.length ≤ 3 := by
  have h1 := at_lt l 0 6 (by decide)
  have h2 := at_lt l 1 3 (by decide)
  rw [(bg_len l).1, (bg_len l).2]
  omega
/-- A book in given places. -/
abbrev bkAt (o p q r s : Nat) (b : Bk) : Asc := [(o, .pair (.sl p [] 4 0 b.A.length) (.pair (.sl q [] 4 0 b.O.length) (.pair (.sl r [] 1 0 b.W.length) (.pair (.sl s [] 1 0 b.R.length) .nul)))), (p, acsO b.A), (q, acsO b.O), (r, liO b.W), (s, boO b.R)]
theorem take2_ok (l : List Int) (hl : l.length ≤ 9223372036854775807) (m n : Nat) (hm : m ≤ 1048576) (hn : min l.length m = n) : Ok Try.prog 11 [] [] (.pair (liV l) (.pair (.int .i64 m) .nul)) (fun r h' => r = .sl 0 [] 1 0 n ∧ h' = [(0, .arr n 1 (fun i => .int .i64 (l.getD i 0)))]) := by
  have hmin : min (l.length : Int) (m : Int) = (n : Int) := by omega
  refine Ok.of_vcC tt_ok Try.func11 rfl rfl (by show 2 ≤ _; decide) 0 (hlt_ok (by rfl)) fun c0 => ?_
  repeat' (first | (refine Seq.val (v := .int .i64 (n : Int)) (hmin ▸ min_ok (k := .i64) (by rfl) (by rfl)) (by rfl) (by rfl) ?_) | (first | with_reducible refine VC.seq ?_ | with_reducible refine VC.block ?_ | with_reducible refine VC.region ?_ | with_reducible refine VC.exit ?_ | with_reducible refine VC.ret ?_ | with_reducible refine VC.skip ?_ | with_reducible refine Seq.nil ?_ | with_reducible refine thenQ_n ?_ | with_reducible refine thenQ_r ?_ | with_reducible refine thenQ_e ?_ | with_reducible refine inQ_n ?_ | with_reducible refine inQ_r ?_ | with_reducible refine inQ_e ?_ | ((with_reducible refine inQ_o ?_ ?_); rfl) | (refine Seq.ev0 true tt_ok (by rfl) (by (first | exact trivial | exact u8_in _ rfl | exact u32_in _ rfl | ((with_reducible refine AllP.guard ?_); simp only [AllP, inI, fitV, maxK, inK, inbL, inb, List.append, List.cons_append, List.nil_append, true_and, and_true]; first | done | omega))) rfl rfl rfl ?_) | (refine Seq.ev true tt_ok (by rfl) (by (first | exact trivial | exact u8_in _ rfl | exact u32_in _ rfl | ((with_reducible refine AllP.guard ?_); simp only [AllP, inI, fitV, maxK, inK, inbL, inb, List.append, List.cons_append, List.nil_append, true_and, and_true]; first | done | omega))) rfl rfl rfl ?_) | (refine Seq.evn true tt_ok (by rfl) (by (first | exact trivial | exact u8_in _ rfl | exact u32_in _ rfl | ((with_reducible refine AllP.guard ?_); simp only [AllP, inI, fitV, maxK, inK, inbL, inb, List.append, List.cons_append, List.nil_append, true_and, and_true]; first | done | omega))) rfl ?_) | (refine Seq.pass (by rfl) rfl ?_)) | (refine Seq.lit (by rfl) (by rfl) LT2_ ?_) | (refine VC.litT (by rfl) LTR_ ?_) | (refine VC.litF (by rfl) LFA_ ?_) | (refine DD_ ?_) | (refine DSeq.lit2 (by rfl) (by rfl) (by rfl) LT2_ (by rfl) ?_) | ((refine retQ_ok (by rfl) [] nil_sub ⟨?_, rfl⟩); try rfl) | (refine Seq.litC (by rfl) (by rfl) (fun hb => ?_) (fun hb => ?_) <;> (fail_if_success (with_reducible have := litT_ hb)) <;> (fail_if_success (with_reducible have := litF_ hb)) <;> (try simp only [decide_eq_true_eq, decide_eq_false_iff_not, Bool.not_eq_true', Bool.not_eq_false', Bool.or_eq_true, Bool.or_eq_false_iff, Bool.and_eq_true, Bool.and_eq_false_iff] at hb) <;> (try (exfalso; first | omega | (cases hb; done)))) | (refine VC.cond (by rfl) (fun hb => ?_) (fun hb => ?_) <;> (fail_if_success (with_reducible have := litT_ hb)) <;> (fail_if_success (with_reducible have := litF_ hb)) <;> (try simp only [decide_eq_true_eq, decide_eq_false_iff_not, Bool.not_eq_true', Bool.not_eq_false', Bool.or_eq_true, Bool.or_eq_false_iff, Bool.and_eq_true, Bool.and_eq_false_iff] at hb) <;> (try (exfalso; first | omega | (cases hb; done)))) | (refine DSeq.litC2 (by rfl) (by rfl) (by rfl) (by rfl) (by rfl) (fun hb => ?_) (fun hb => ?_) <;> (fail_if_success (with_reducible have := litT_ hb)) <;> (fail_if_success (with_reducible have := litF_ hb)) <;> (try simp only [decide_eq_true_eq, decide_eq_false_iff_not, Bool.not_eq_true', Bool.not_eq_false', Bool.or_eq_true, Bool.or_eq_false_iff, Bool.and_eq_true, Bool.and_eq_false_iff] at hb) <;> (try (exfalso; first | omega | (cases hb; done)))))
  simp only [Int.toNat_natCast, Nat.sub_zero, Nat.zero_add]
  (refine retC_mk ([(4, .sl 0 [] 1 0 n)]) ([(0, .arr n 1 (fun i => .int .i64 (l.getD i 0)))]) 1 (Sim.less [] (by rfl) R_ R_) (retQ_ok (by rfl) ([(0, .arr n 1 (fun i => .int .i64 (l.getD i 0)))]) (fun i av h => h) ⟨?_, ?_⟩)) <;> rfl
theorem costV_cost (n : Int) : isCost (costV n) = true := by
  have h1 := around_lt (Int.tdiv n 5) 7 (by decide)
  have h2 := around_lt n 5 (by decide)
  have h3 := qs_le (i := (aroundI n 5).toNat) (by omega)
  exact (mk_cost (by omega) (by omega)).2
theorem script_fit (s : List Int) (n : Int) (k : Nat) : ((script s n).getD k actZ).P.length ≤ 3 ∧ R64 ((script s n).getD k actZ).C := by
  rcases Nat.lt_or_ge k (scN s) with h | h
  · rw [script_get h]
    exact ⟨scAct_len s n k, valid_r64 (cost_iff.1 (costV_cost _)).1⟩
  · rw [List.getD_eq_getElem?_getD, List.getElem?_eq_none (by rw [script_len]; exact h)]
    exact ⟨by decide, ⟨by decide, by decide⟩⟩
end Go.Proofs.Ytkhlmicogdjmlaa
