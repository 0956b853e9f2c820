/- Budgets: lists that are searched. Budgets: a book. -/
import Derived.Test.YtdbebdjnpckfdaaDoorRf
set_option linter.unusedSimpArgs false
set_option linter.unusedVariables false
namespace Go.Proofs.YtdbebdjnpckfdaaDoor
open Go.V Go.RowKit Go.L Go.Lx Go.Rt Go.Bg
set_option maxRecDepth 10000
set_option maxHeartbeats 4000000
theorem idxR_ok (l : List Rq) (hl : l.length ≤ 256) (hr : ∀ r ∈ l, R64 r) : Ok Tryd.prog 40 [] [] (.pair (rlV l) (.pair n1F .nul)) (fun r h' => r = .int .i64 (idx (fun v => !isCost v) 0 l) ∧ h' = []) := by
  refine Ok.of_vcC tt_ok Tryd.func40 rfl rfl (by show 2 ≤ _; decide) 0 (hlt_ok (by rfl)) fun c0 => ?_
  repeat' (first | (refine SS_ ?_) | fail)
  refine VC.loop (fun k : Nat => ⟨[(8, .int .i64 (k : Nat)), (7, .int .i64 l.length), (1, n1F), (0, rlV l)], [], [], 0⟩) (fun k => k ≤ l.length ∧ idx (fun v => !isCost v) 0 l = idx (fun v => !isCost v) k (l.drop k)) (fun k => l.length - k) 0 ⟨by omega, rfl⟩ (Sim.less [] (by rfl) R_ R_) fun k hk => ?_
  obtain ⟨hk, hi⟩ := hk
  by_cases hkl : k < l.length
  · have hget : l.getD ((k : Nat) : Int).toNat rz = l.getD k rz := by rw [Int.toNat_natCast]
    rw [idx_step (d := rz) hkl] at hi
    have c1 := n1_ok (l.getD k rz) (hr _ (getD_mem hkl))
    rw [← hget] at c1 hi
    generalize isCost (l.getD ((k : Nat) : Int).toNat rz) = q at *
    repeat' (first | (refine SS_ ?_) | (refine Seq.callp false (c1) Tryd.func19 GOk.nil subG.nil (by rfl) (by rfl) rfl rfl rfl rfl rfl (by rfl) rfl VW_ NI_ NI_ FR_ ?_) | (refine VC.litT (by rfl) LTR_ ?_) | (refine VC.cond (by rfl) (fun hb => ?_) (fun hb => ?_) <;> (fail_if_success (with_reducible have := litT_ hb)) <;> (fail_if_success (with_reducible have := litF_ hb)) <;> (try simp only [HB_] at hb) <;> (try (exfalso; first | omega | (cases hb; done)))) | fail)
    · rw [if_pos (by simpa using hb)] at hi
      rw [hi]
      (refine retC_mk ([(4, .int .i64 (k : Nat))]) ([]) 0 (Sim.less [] (by rfl) R_ R_) (retQ_ok (by rfl) ([]) (fun i av h => h) ⟨?_, ?_⟩)) <;> rfl
    · rw [if_neg (by simpa using hb)] at hi
      refine ⟨k + 1, ⟨by omega, hi⟩, by omega, ?_⟩
      exact (Sim.less [] (by rfl) R_ R_)
  · repeat' (first | (refine SS_ ?_) | (refine VC.litF (by rfl) LFA_ ?_) | fail)
    rw [List.drop_of_length_le (by omega)] at hi
    rw [hi]
    (refine retC_mk ([(4, .int .i64 (-1))]) ([]) 0 (Sim.less [] (by rfl) R_ R_) (retQ_ok (by rfl) ([]) (fun i av h => h) ⟨?_, ?_⟩)) <;> rfl
theorem conR_ok (l : List Rq) (hl : l.length ≤ 256) (hr : ∀ r ∈ l, R64 r) : Ok Tryd.prog 23 [] [] (.pair (rlV l) (.pair n1F .nul)) (fun r h' => r = .bool (l.any fun v => !isCost v) ∧ h' = []) := by
  have c1 := idxR_ok l hl hr
  rw [show (l.any fun v => !isCost v) = decide (0 ≤ idx (fun v => !isCost v) 0 l) by rw [idx_any]]
  generalize idx (fun v => !isCost v) 0 l = m at *
  refine Ok.of_vcC tt_ok Tryd.func23 rfl rfl (by show 2 ≤ _; decide) 0 (hlt_ok (by rfl)) fun c0 => ?_
  repeat' (first | (refine SS_ ?_) | (refine Seq.callp false (c1) Tryd.func40 GOk.nil subG.nil (by rfl) (by rfl) rfl rfl rfl rfl rfl (by rfl) rfl VW_ NI_ NI_ FR_ ?_) | fail)
  (refine retC_mk ([(4, .bool (decide (0 ≤ m)))]) ([]) 0 (Sim.less [] (by rfl) R_ R_) (retQ_ok (by rfl) ([]) (fun i av h => h) ⟨?_, ?_⟩)) <;> rfl
abbrev n2F : AV := .fn (.func 22) .nul (.pair (.ptr 0 []) .nul)
theorem bidxW_ok (q : List Rq) (hq : q.length ≤ 16) (l : List Int) (hl : l.length ≤ 9223372036854775807) : Ok Tryd.prog 39 [] [(0, rlV q)] (.pair (liV l) (.pair n2F .nul)) (fun r h' => r = .int .i64 (idx (fun x => decide (x < 0 ∨ (q.length : Int) ≤ x)) 0 l) ∧ h' = [(0, rlV q)]) := by
  refine Ok.of_vcC tt_ok Tryd.func39 rfl rfl (by show 2 ≤ _; decide) 1 (hlt_ok (by rfl)) fun c0 => ?_
  repeat' (first | (refine SS_ ?_) | fail)
  refine VC.loop (fun k : Nat => ⟨[(8, .int .i64 (k : Nat)), (7, .int .i64 l.length), (1, n2F), (0, liV l)], [(0, rlV q)], [], 1⟩) (fun k => k ≤ l.length ∧ idx (fun x => decide (x < 0 ∨ (q.length : Int) ≤ x)) 0 l = idx (fun x => decide (x < 0 ∨ (q.length : Int) ≤ x)) k (l.drop k)) (fun k => l.length - k) 0 ⟨by omega, rfl⟩ (Sim.less [] (by rfl) R_ R_) fun k hk => ?_
  obtain ⟨hk, hi⟩ := hk
  by_cases hkl : k < l.length
  · have hget : l.getD ((k : Nat) : Int).toNat 0 = l.getD k 0 := by rw [Int.toNat_natCast]
    rw [idx_step (d := 0) hkl] at hi
    have c1 := n2_ok q hq (l.getD k 0)
    rw [← hget] at c1 hi
    generalize hv : l.getD ((k : Nat) : Int).toNat 0 = v at *
    generalize hqq : decide (v < 0 ∨ (q.length : Int) ≤ v) = qq at *
    repeat' (first | (refine SS_ ?_) | (refine Seq.callo false [] [] (.bool qq) ([(0, rlV q)]) 1 (c1) Tryd.func22 GOk.nil subG.nil (by rfl) (by rfl) rfl rfl rfl rfl rfl (by rfl) rfl (by rfl) (by rfl) (by rfl) (by rfl) VW_ NI_ R_ (noFrL_ok NI_) BK_ ?_) | (refine VC.litT (by rfl) LTR_ ?_) | (refine VC.cond (by rfl) (fun hb => ?_) (fun hb => ?_) <;> (fail_if_success (with_reducible have := litT_ hb)) <;> (fail_if_success (with_reducible have := litF_ hb)) <;> (try simp only [HB_] at hb) <;> (try (exfalso; first | omega | (cases hb; done)))) | fail)
    · rw [if_pos (by simpa using hb)] at hi
      rw [hi]
      (refine retC_mk ([(4, .int .i64 (k : Nat))]) ([(0, rlV q)]) 1 (Sim.less [] (by rfl) R_ R_) (retQ_ok (by rfl) ([(0, rlV q)]) (fun i av h => h) ⟨?_, ?_⟩)) <;> rfl
    · rw [if_neg (by simpa using hb)] at hi
      refine ⟨k + 1, ⟨by omega, hi⟩, by omega, ?_⟩
      exact (Sim.less [] (by rfl) R_ R_)
  · repeat' (first | (refine SS_ ?_) | (refine VC.litF (by rfl) LFA_ ?_) | fail)
    rw [List.drop_of_length_le (by omega)] at hi
    rw [hi]
    (refine retC_mk ([(4, .int .i64 (-1))]) ([(0, rlV q)]) 1 (Sim.less [] (by rfl) R_ R_) (retQ_ok (by rfl) ([(0, rlV q)]) (fun i av h => h) ⟨?_, ?_⟩)) <;> rfl
theorem conW_ok (q : List Rq) (hq : q.length ≤ 16) (l : List Int) (hl : l.length ≤ 9223372036854775807) : Ok Tryd.prog 21 [] [(0, rlV q)] (.pair (liV l) (.pair n2F .nul)) (fun r h' => r = .bool (l.any fun x => decide (x < 0 ∨ (q.length : Int) ≤ x)) ∧ h' = [(0, rlV q)]) := by
  have c1 := bidxW_ok q hq l hl
  rw [show (l.any fun x => decide (x < 0 ∨ (q.length : Int) ≤ x)) = decide (0 ≤ idx (fun x => decide (x < 0 ∨ (q.length : Int) ≤ x)) 0 l) by rw [idx_any]]
  generalize idx (fun x => decide (x < 0 ∨ (q.length : Int) ≤ x)) 0 l = m at *
  refine Ok.of_vcC tt_ok Tryd.func21 rfl rfl (by show 2 ≤ _; decide) 1 (hlt_ok (by rfl)) fun c0 => ?_
  repeat' (first | (refine SS_ ?_) | (refine Seq.callo false [] [] (.int .i64 m) ([(0, rlV q)]) 1 (c1) Tryd.func39 GOk.nil subG.nil (by rfl) (by rfl) rfl rfl rfl rfl rfl (by rfl) rfl (by rfl) (by rfl) (by rfl) (by rfl) VW_ NI_ R_ (noFrL_ok NI_) BK_ ?_) | fail)
  (refine retC_mk ([(4, .bool (decide (0 ≤ m)))]) ([(0, rlV q)]) 1 (Sim.less [] (by rfl) R_ R_) (retQ_ok (by rfl) ([(0, rlV q)]) (fun i av h => h) ⟨?_, ?_⟩)) <;> rfl
theorem index_ok (l : List Int) (hl : l.length ≤ 9223372036854775807) (x : Int) : Ok Tryd.prog 71 [] [] (.pair (liV l) (.pair (.int .i64 x) .nul)) (fun r h' => r = .int .i64 (idx (fun v => decide (x = v)) 0 l) ∧ h' = []) := by
  refine Ok.of_vcC tt_ok Tryd.func71 rfl rfl (by show 2 ≤ _; decide) 0 (hlt_ok (by rfl)) fun c0 => ?_
  repeat' (first | (refine SS_ ?_) | fail)
  refine VC.loop (fun k : Nat => ⟨[(8, .int .i64 (k : Nat)), (7, .int .i64 l.length), (1, .int .i64 x), (0, liV l)], [], [], 0⟩) (fun k => k ≤ l.length ∧ idx (fun v => decide (x = v)) 0 l = idx (fun v => decide (x = v)) k (l.drop k)) (fun k => l.length - k) 0 ⟨by omega, rfl⟩ (Sim.less [] (by rfl) R_ R_) fun k hk => ?_
  obtain ⟨hk, hr⟩ := hk
  by_cases hkl : k < l.length
  · have hget : l.getD ((k : Nat) : Int).toNat 0 = l.getD k 0 := by rw [Int.toNat_natCast]
    rw [idx_step (d := 0) hkl] at hr
    repeat' (first | (refine SS_ ?_) | (refine VC.litT (by rfl) LTR_ ?_) | (refine VC.cond (by rfl) (fun hb => ?_) (fun hb => ?_) <;> (fail_if_success (with_reducible have := litT_ hb)) <;> (fail_if_success (with_reducible have := litF_ hb)) <;> (try simp only [HB_] at hb) <;> (try (exfalso; first | omega | (cases hb; done)))) | fail)
    · rw [if_pos (decide_eq_true (by omega))] at hr
      rw [hr]
      (refine retC_mk ([(4, .int .i64 (k : Nat))]) ([]) 0 (Sim.less [] (by rfl) R_ R_) (retQ_ok (by rfl) ([]) (fun i av h => h) ⟨?_, ?_⟩)) <;> rfl
    · rw [if_neg (fun h => by have := of_decide_eq_true h; omega)] at hr
      refine ⟨k + 1, ⟨by omega, hr⟩, by omega, ?_⟩
      exact (Sim.less [] (by rfl) R_ R_)
  · repeat' (first | (refine SS_ ?_) | (refine VC.litF (by rfl) LFA_ ?_) | fail)
    rw [List.drop_of_length_le (by omega)] at hr
    rw [hr]
    (refine retC_mk ([(4, .int .i64 (-1))]) ([]) 0 (Sim.less [] (by rfl) R_ R_) (retQ_ok (by rfl) ([]) (fun i av h => h) ⟨?_, ?_⟩)) <;> rfl
theorem any_eq (x : Int) (l : List Int) : (l.any fun v => decide (x = v)) = decide (x ∈ l) := by
  rw [Bool.eq_iff_iff, List.any_eq_true, decide_eq_true_eq]
  exact ⟨fun ⟨y, h1, h2⟩ => (of_decide_eq_true h2) ▸ h1, fun h => ⟨x, h, decide_eq_true rfl⟩⟩
theorem contains_ok (l : List Int) (hl : l.length ≤ 9223372036854775807) (x : Int) : Ok Tryd.prog 60 [] [] (.pair (liV l) (.pair (.int .i64 x) .nul)) (fun r h' => r = .bool (decide (x ∈ l)) ∧ h' = []) := by
  have c1 := index_ok l hl x
  rw [show decide (x ∈ l) = decide (0 ≤ idx (fun v => decide (x = v)) 0 l) by rw [idx_any, any_eq]]
  generalize idx (fun v => decide (x = v)) 0 l = m at *
  refine Ok.of_vcC tt_ok Tryd.func60 rfl rfl (by show 2 ≤ _; decide) 0 (hlt_ok (by rfl)) fun c0 => ?_
  repeat' (first | (refine SS_ ?_) | (refine Seq.callp false (c1) Tryd.func71 GOk.nil subG.nil (by rfl) (by rfl) rfl rfl rfl rfl rfl (by rfl) rfl VW_ NI_ NI_ FR_ ?_) | fail)
  (refine retC_mk ([(4, .bool (decide (0 ≤ m)))]) ([]) 0 (Sim.less [] (by rfl) R_ R_) (retQ_ok (by rfl) ([]) (fun i av h => h) ⟨?_, ?_⟩)) <;> rfl
end Go.Proofs.YtdbebdjnpckfdaaDoor

namespace Go.Proofs.YtdbebdjnpckfdaaDoor
open Go.V Go.RowKit Go.L Go.Lx Go.Rt Go.Bg
set_option maxRecDepth 10000
set_option maxHeartbeats 4000000
theorem OkP.args {P : Program} {f : FuncId} {g h h1 : Asc} {args args' : AV} {pv : Value} (k : OkP P f g h args pv h1) (hi : Imp args args') : OkP P f g h args' pv h1 := fun c hg hh hc hB hA vs hvs => k c hg hh hc hB hA vs (hi c _ _ hvs)
theorem VC.regionN {F : Fr} {Q : Exit → St → Prop} {s : St} {id : Nat} {l : List Oper} (k : Nat) {pre r : List Oper} {d : Option Tmp} {x : Operand} {ty : TypeId} {pos : String} {af : Array Edge} {gd : Option (Nat × Bool)} (hl : splitO k l (fun p q t => some (p, q, t)) = some (pre, ⟨d, .panic x, ty, pos, af, gd⟩, r)) (h : Seq F l.toArray pre s (fun s' => PanTo F l.toArray ⟨d, .panic x, ty, pos, af, gd⟩ s' Q)) (ht : F.L.top = true := by with_unfolding_all rfl) : VC F (.region id l.toArray false) Q s := VC.regionX k hl h ht
theorem take_get {l : List Int} {k i : Nat} (h : i < k) : (l.take k).getD i 0 = l.getD i 0 := by
  rw [List.getD_eq_getElem?_getD, List.getD_eq_getElem?_getD, List.getElem?_take, if_pos h]
abbrev bkA (a o w r : Nat) : AV := .pair (.sl 1 [] 4 0 a) (.pair (.sl 2 [] 4 0 o) (.pair (.sl 3 [] 1 0 w) (.pair (.sl 4 [] 1 0 r) .nul)))
abbrev bH (b : Bk) : Asc := [(0, bkA b.A.length b.O.length b.W.length b.R.length), (1, acsO b.A), (2, acsO b.O), (3, liO b.W), (4, boO b.R)]
theorem known_ok (b : Bk) (hb : BOk b) (l : List Int) (hl : l.length ≤ 9223372036854775807) (p : Int) (hk : kn b l p = 0) : Ok Tryd.prog 43 [] (bH b) (.pair (.ptr 0 []) (.pair (.int .i64 p) (.pair (liV l) .nul))) (fun v h' => v = .tup .nul ∧ h' = bH b) := by
  have ha := hb.na
  have hbr := hb.r
  have c1 := contains_ok l hl p
  unfold kn at hk
  have h1 : ¬ (p < 0 ∨ (b.A.length : Int) ≤ p) := fun h => by rw [if_pos h] at hk; cases hk
  rw [if_neg h1] at hk
  have h2 : ¬ p ∈ l := fun h => by rw [if_pos h] at hk; cases hk
  rw [if_neg h2] at hk
  have h3 : ¬ b.R.getD p.toNat false = true := fun h => by rw [if_pos h] at hk; cases hk
  rw [Bool.not_eq_true] at h3
  rw [decide_eq_false h2] at c1
  refine Ok.of_vcC tt_ok Tryd.func43 rfl rfl (by show 3 ≤ _; decide) 5 (hlt_ok (by rfl)) fun c0 => ?_
  repeat' (first | (refine SS_ ?_) | (refine Seq.callp false (c1) Tryd.func60 GOk.nil subG.nil (by rfl) (by rfl) rfl rfl rfl rfl rfl (by rfl) rfl VW_ NI_ NI_ FR_ ?_) | (refine Seq.lit (by rfl) (by rfl) LT2_ ?_) | (refine VC.litF (by rfl) LFA_ ?_) | (refine VC.cond (by rfl) (fun hb => ?_) (fun hb => ?_) <;> (fail_if_success (with_reducible have := litT_ hb)) <;> (fail_if_success (with_reducible have := litF_ hb)) <;> (try simp only [HB_] at hb) <;> (try (exfalso; first | omega | (cases hb; done)))) | fail)
  all_goals first | (rw [Nat.zero_add, h3] at hb; cases hb; done) | skip
  (refine retC_mk ([]) (bH b) 5 (Sim.less [] (by rfl) R_ R_) (retQ_ok (by rfl) (bH b) (fun i av h => h) ⟨?_, ?_⟩)) <;> rfl
theorem known_pan (b : Bk) (hb : BOk b) (l : List Int) (hl : l.length ≤ 9223372036854775807) (p : Int) (e : Int) (he : kn b l p = e) (hne : e ≠ 0) : OkP Tryd.prog 43 [] (bH b) (.pair (.ptr 0 []) (.pair (.int .i64 p) (.pair (liV l) .nul))) (errV e) (bH b) := by
  have ha := hb.na
  have hbr := hb.r
  have c1 := contains_ok l hl p
  unfold kn at he
  by_cases h1 : p < 0 ∨ (b.A.length : Int) ≤ p
  · rw [if_pos h1] at he
    subst he
    by_cases h0 : p < 0
    · refine OkP.of_vc Tryd.func43 rfl rfl (by show 3 ≤ _; decide) 5 (hlt_ok (by rfl)) fun c0 => ?_
      repeat' (first | (refine VC.regionN 1 (by rfl) ?_) | (first | with_reducible refine VC.seq ?_ | with_reducible refine VC.block ?_ | with_reducible refine VC.region ?_ | with_reducible refine VC.exit ?_ | with_reducible refine VC.ret ?_ | with_reducible refine VC.skip ?_ | with_reducible refine Seq.nil ?_ | with_reducible refine thenQ_n ?_ | with_reducible refine thenQ_r ?_ | with_reducible refine thenQ_e ?_ | with_reducible refine inQ_n ?_ | with_reducible refine inQ_r ?_ | with_reducible refine inQ_e ?_ | ((with_reducible refine inQ_o ?_ ?_); rfl) | (refine Seq.ev0 true tt_ok (by rfl) (by (first | exact trivial | exact u8_in _ rfl | exact u32_in _ rfl | ((with_reducible refine AllP.guard ?_); simp only [AllP, inI, fitV, maxK, inK, inbL, inb, List.append, List.cons_append, List.nil_append, true_and, and_true]; first | done | omega))) rfl rfl rfl ?_) | (refine Seq.ev true tt_ok (by rfl) (by (first | exact trivial | exact u8_in _ rfl | exact u32_in _ rfl | ((with_reducible refine AllP.guard ?_); simp only [AllP, inI, fitV, maxK, inK, inbL, inb, List.append, List.cons_append, List.nil_append, true_and, and_true]; first | done | omega))) rfl rfl rfl ?_) | (refine Seq.evn true tt_ok (by rfl) (by (first | exact trivial | exact u8_in _ rfl | exact u32_in _ rfl | ((with_reducible refine AllP.guard ?_); simp only [AllP, inI, fitV, maxK, inK, inbL, inb, List.append, List.cons_append, List.nil_append, true_and, and_true]; first | done | omega))) rfl ?_) | (refine Seq.pass (by rfl) rfl ?_)) | (refine Seq.lit (by rfl) (by rfl) LT2_ ?_) | (refine VC.litT (by rfl) LTR_ ?_) | fail)
      refine PanTo.panic (by rfl) (by rfl) ?_
      exact panQ_mk [] (bH b) 5 (Sim.less [] (by rfl) R_ R_) (fun i av h => h)
    · refine OkP.of_vc Tryd.func43 rfl rfl (by show 3 ≤ _; decide) 5 (hlt_ok (by rfl)) fun c0 => ?_
      repeat' (first | (refine VC.regionN 1 (by rfl) ?_) | (first | with_reducible refine VC.seq ?_ | with_reducible refine VC.block ?_ | with_reducible refine VC.region ?_ | with_reducible refine VC.exit ?_ | with_reducible refine VC.ret ?_ | with_reducible refine VC.skip ?_ | with_reducible refine Seq.nil ?_ | with_reducible refine thenQ_n ?_ | with_reducible refine thenQ_r ?_ | with_reducible refine thenQ_e ?_ | with_reducible refine inQ_n ?_ | with_reducible refine inQ_r ?_ | with_reducible refine inQ_e ?_ | ((with_reducible refine inQ_o ?_ ?_); rfl) | (refine Seq.ev0 true tt_ok (by rfl) (by (first | exact trivial | exact u8_in _ rfl | exact u32_in _ rfl | ((with_reducible refine AllP.guard ?_); simp only [AllP, inI, fitV, maxK, inK, inbL, inb, List.append, List.cons_append, List.nil_append, true_and, and_true]; first | done | omega))) rfl rfl rfl ?_) | (refine Seq.ev true tt_ok (by rfl) (by (first | exact trivial | exact u8_in _ rfl | exact u32_in _ rfl | ((with_reducible refine AllP.guard ?_); simp only [AllP, inI, fitV, maxK, inK, inbL, inb, List.append, List.cons_append, List.nil_append, true_and, and_true]; first | done | omega))) rfl rfl rfl ?_) | (refine Seq.evn true tt_ok (by rfl) (by (first | exact trivial | exact u8_in _ rfl | exact u32_in _ rfl | ((with_reducible refine AllP.guard ?_); simp only [AllP, inI, fitV, maxK, inK, inbL, inb, List.append, List.cons_append, List.nil_append, true_and, and_true]; first | done | omega))) rfl ?_) | (refine Seq.pass (by rfl) rfl ?_)) | (refine Seq.lit (by rfl) (by rfl) LT2_ ?_) | (refine VC.litT (by rfl) LTR_ ?_) | fail)
      refine PanTo.panic (by rfl) (by rfl) ?_
      exact panQ_mk [] (bH b) 5 (Sim.less [] (by rfl) R_ R_) (fun i av h => h)
  · rw [if_neg h1] at he
    by_cases h2 : p ∈ l
    · rw [if_pos h2] at he
      subst he
      rw [decide_eq_true h2] at c1
      refine OkP.of_vc Tryd.func43 rfl rfl (by show 3 ≤ _; decide) 5 (hlt_ok (by rfl)) fun c0 => ?_
      repeat' (first | (refine VC.regionN 1 (by rfl) ?_) | (first | with_reducible refine VC.seq ?_ | with_reducible refine VC.block ?_ | with_reducible refine VC.region ?_ | with_reducible refine VC.exit ?_ | with_reducible refine VC.ret ?_ | with_reducible refine VC.skip ?_ | with_reducible refine Seq.nil ?_ | with_reducible refine thenQ_n ?_ | with_reducible refine thenQ_r ?_ | with_reducible refine thenQ_e ?_ | with_reducible refine inQ_n ?_ | with_reducible refine inQ_r ?_ | with_reducible refine inQ_e ?_ | ((with_reducible refine inQ_o ?_ ?_); rfl) | (refine Seq.ev0 true tt_ok (by rfl) (by (first | exact trivial | exact u8_in _ rfl | exact u32_in _ rfl | ((with_reducible refine AllP.guard ?_); simp only [AllP, inI, fitV, maxK, inK, inbL, inb, List.append, List.cons_append, List.nil_append, true_and, and_true]; first | done | omega))) rfl rfl rfl ?_) | (refine Seq.ev true tt_ok (by rfl) (by (first | exact trivial | exact u8_in _ rfl | exact u32_in _ rfl | ((with_reducible refine AllP.guard ?_); simp only [AllP, inI, fitV, maxK, inK, inbL, inb, List.append, List.cons_append, List.nil_append, true_and, and_true]; first | done | omega))) rfl rfl rfl ?_) | (refine Seq.evn true tt_ok (by rfl) (by (first | exact trivial | exact u8_in _ rfl | exact u32_in _ rfl | ((with_reducible refine AllP.guard ?_); simp only [AllP, inI, fitV, maxK, inK, inbL, inb, List.append, List.cons_append, List.nil_append, true_and, and_true]; first | done | omega))) rfl ?_) | (refine Seq.pass (by rfl) rfl ?_)) | (refine Seq.callp false (c1) Tryd.func60 GOk.nil subG.nil (by rfl) (by rfl) rfl rfl rfl rfl rfl (by rfl) rfl VW_ NI_ NI_ FR_ ?_) | (refine Seq.lit (by rfl) (by rfl) LT2_ ?_) | (refine VC.litT (by rfl) LTR_ ?_) | (refine VC.litF (by rfl) LFA_ ?_) | fail)
      refine PanTo.panic (by rfl) (by rfl) ?_
      exact panQ_mk [] (bH b) 5 (Sim.less [] (by rfl) R_ R_) (fun i av h => h)
    · rw [if_neg h2] at he
      rw [decide_eq_false h2] at c1
      have h3 : b.R.getD p.toNat false = true := by
        by_cases h : b.R.getD p.toNat false = true
        · exact h
        · rw [if_neg h] at he; exact absurd he.symm hne
      rw [if_pos h3] at he
      subst he
      refine OkP.of_vc Tryd.func43 rfl rfl (by show 3 ≤ _; decide) 5 (hlt_ok (by rfl)) fun c0 => ?_
      repeat' (first | (refine VC.regionN 1 (by rfl) ?_) | (first | with_reducible refine VC.seq ?_ | with_reducible refine VC.block ?_ | with_reducible refine VC.region ?_ | with_reducible refine VC.exit ?_ | with_reducible refine VC.ret ?_ | with_reducible refine VC.skip ?_ | with_reducible refine Seq.nil ?_ | with_reducible refine thenQ_n ?_ | with_reducible refine thenQ_r ?_ | with_reducible refine thenQ_e ?_ | with_reducible refine inQ_n ?_ | with_reducible refine inQ_r ?_ | with_reducible refine inQ_e ?_ | ((with_reducible refine inQ_o ?_ ?_); rfl) | (refine Seq.ev0 true tt_ok (by rfl) (by (first | exact trivial | exact u8_in _ rfl | exact u32_in _ rfl | ((with_reducible refine AllP.guard ?_); simp only [AllP, inI, fitV, maxK, inK, inbL, inb, List.append, List.cons_append, List.nil_append, true_and, and_true]; first | done | omega))) rfl rfl rfl ?_) | (refine Seq.ev true tt_ok (by rfl) (by (first | exact trivial | exact u8_in _ rfl | exact u32_in _ rfl | ((with_reducible refine AllP.guard ?_); simp only [AllP, inI, fitV, maxK, inK, inbL, inb, List.append, List.cons_append, List.nil_append, true_and, and_true]; first | done | omega))) rfl rfl rfl ?_) | (refine Seq.evn true tt_ok (by rfl) (by (first | exact trivial | exact u8_in _ rfl | exact u32_in _ rfl | ((with_reducible refine AllP.guard ?_); simp only [AllP, inI, fitV, maxK, inK, inbL, inb, List.append, List.cons_append, List.nil_append, true_and, and_true]; first | done | omega))) rfl ?_) | (refine Seq.pass (by rfl) rfl ?_)) | (refine Seq.callp false (c1) Tryd.func60 GOk.nil subG.nil (by rfl) (by rfl) rfl rfl rfl rfl rfl (by rfl) rfl VW_ NI_ NI_ FR_ ?_) | (refine Seq.lit (by rfl) (by rfl) LT2_ ?_) | (refine VC.litF (by rfl) LFA_ ?_) | (refine VC.cond (by rfl) (fun hb => ?_) (fun hb => ?_) <;> (fail_if_success (with_reducible have := litT_ hb)) <;> (fail_if_success (with_reducible have := litF_ hb)) <;> (try simp only [HB_] at hb) <;> (try (exfalso; first | omega | (cases hb; done)))) | fail)
      · refine PanTo.panic (by rfl) (by rfl) ?_
        exact panQ_mk [] (bH b) 5 (Sim.less [] (by rfl) R_ R_) (fun i av h => h)
      · rw [Nat.zero_add, h3] at hb; cases hb
end Go.Proofs.YtdbebdjnpckfdaaDoor
