/- Budgets: Ask. -/
import Derived.Test.YtdbebdjnpckfdaaDoorRl
set_option linter.unusedSimpArgs false
set_option linter.unusedVariables false
namespace Go.Proofs.YtdbebdjnpckfdaaDoor
open Go.V Go.RowKit Go.L Go.Lx Go.Rt Go.Bg
set_option maxRecDepth 10000
set_option maxHeartbeats 4000000
abbrev bkN (a o w r : Nat) : AV := .pair (.sl 7 [] 4 0 a) (.pair (.sl 8 [] 4 0 o) (.pair (.sl 9 [] 1 0 w) (.pair (.sl 10 [] 1 0 r) .nul)))
abbrev nbH (b : Bk) : Asc := [(0, bkN b.A.length b.O.length b.W.length b.R.length), (7, acsO b.A), (8, acsO b.O), (9, liO b.W), (10, boO b.R)]
theorem liV_take0 {l : List Int} {k : Nat} (h : k ≤ l.length) : Imp (liV (l.take k)) (.rsl false (((k : Nat) : Int).toNat - 0) 1 (fun i => .int .i64 (l.getD (0 + i) 0))) :=
  Imp.rsl (by rw [List.length_take]; omega) (fun e => e) fun i hi => Imp.of_eq (by rw [Nat.zero_add, take_get (by rw [List.length_take] at hi; omega)])
theorem rel_cnt {A : Nat → Prop} {σ : Nat → Nat} {f g : Nat → Nat} {w : Int} {i : Nat} (hw : 0 ≤ w) (h : ∀ o : Nat, g o = f o + if w = (o : Int) then 1 else 0) : RelA A σ (.int .i64 ((g i : Nat) : Int)) (bif Nat.beq i (0 + w.toNat) then .int .i64 (((f (0 + w.toNat) : Nat) : Int) + 1) else .int .i64 ((f i : Nat) : Int)) := by
  by_cases e : i = 0 + w.toNat
  · rw [bif_eq e, ← e, h i, if_pos (by omega)]; exact NoId.self NI_
  · rw [bif_ne e, h i, if_neg (by omega)]; exact NoId.self NI_
def AskR (b : Bk) (l : List Int) (c : Rq) (v : AV) (h' : Asc) : Prop := (askE b l c ≠ 0 ∧ v = .int .i64 (askE b l c) ∧ h' = bH b) ∨ (askE b l c = 0 ∧ v = .int .i64 0 ∧ h' = nbH (askB b l c))
theorem ask_ok (b : Bk) (hb : BOk b) (l : List Int) (hl : l.length ≤ 256) (c : Rq) (hr : R64 c) : Ok Tryd.prog 29 [] (bH b) (.pair (.ptr 0 []) (.pair (liV l) (.pair (ratA c) .nul))) (AskR b l c) := by
  have hna := hb.na
  have hno := hb.no
  have hwl := hb.w.1
  have hww := hb.w.2
  have c1 := isCost_ok c hr
  refine Ok.of_vcX tt_ok caught_ok Tryd.func29 rfl rfl (by show 3 ≤ _; decide) 5 (hlt_ok (by rfl)) fun c0 => ?_
  by_cases hbad : l = [] ∨ isCost c = false
  · have he := ask_bad (b := b) hbad
    refine VCX.of_vc ?_
    by_cases h0 : l = []
    · have h0' : l.length = 0 := by rw [h0]; rfl
      clear h0 hbad
      repeat' (first | (refine SS_ ?_) | (refine Seq.lit (by rfl) (by rfl) LT2_ ?_) | (refine VC.litT (by rfl) LTR_ ?_) | fail)
      refine .inl ⟨rfl, ?_⟩
      exact retC_mk [(6, .ptr 6 [])] ((6, .int .i64 1) :: bH b) 7 (Sim.less [] (by rfl) R_ R_) (retQ_ok (by rfl) (bH b) (subL_ok ⟨rfl, rfl, rfl, rfl, rfl, trivial⟩) (.inl ⟨by rw [he]; decide, by rw [he], rfl⟩))
    · have h0' : l.length ≠ 0 := fun h => h0 (List.length_eq_zero_iff.1 h)
      have hc : isCost c = false := hbad.resolve_left h0
      rw [hc] at c1
      repeat' (first | (refine SS_ ?_) | (refine Seq.callp false (c1) Tryd.func20 GOk.nil subG.nil (by rfl) (by rfl) rfl rfl rfl rfl rfl (by rfl) rfl VW_ NI_ NI_ FR_ ?_) | (refine Seq.lit (by rfl) (by rfl) LT2_ ?_) | (refine VC.litT (by rfl) LTR_ ?_) | fail)
      refine .inl ⟨rfl, ?_⟩
      exact retC_mk [(6, .ptr 6 [])] ((6, .int .i64 1) :: bH b) 7 (Sim.less [] (by rfl) R_ R_) (retQ_ok (by rfl) (bH b) (subL_ok ⟨rfl, rfl, rfl, rfl, rfl, trivial⟩) (.inl ⟨by rw [he]; decide, by rw [he], rfl⟩))
  have h0' : l.length ≠ 0 := fun h => hbad (.inl (List.length_eq_zero_iff.1 h))
  have hc : isCost c = true := by
    cases h : isCost c with
    | true => rfl
    | false => exact absurd (.inr h) hbad
  rw [hc] at c1
  refine VCX.seqV ?_
  repeat' (first | (refine SS_ ?_) | fail)
  refine VCX.seqV ?_
  repeat' (first | (refine SS_ ?_) | (refine Seq.callp false (c1) Tryd.func20 GOk.nil subG.nil (by rfl) (by rfl) rfl rfl rfl rfl rfl (by rfl) rfl VW_ NI_ NI_ FR_ ?_) | (refine Seq.lit (by rfl) (by rfl) LT2_ ?_) | (refine VC.litF (by rfl) LFA_ ?_) | fail)
  refine VCX.defer (id := 6) (by rfl) rfl fun c2 hA hG => ?_
  refine VC.conv (s' := ⟨[(0, .ptr 0 []), (1, liV l), (5, .ptr 5 []), (6, .ptr 6 [])], (5, ratA c) :: (6, .int .i64 0) :: bH b, [], 7⟩) (Sim.less [] (by rfl) R_ R_) ?_
  repeat' (first | (refine SS_ ?_) | fail)
  refine VC.loop (fun k : Nat => ⟨[(32, .int .i64 (k : Nat)), (31, .int .i64 l.length), (30, liV l), (0, .ptr 0 []), (1, liV l), (5, .ptr 5 []), (6, .ptr 6 [])], (5, ratA c) :: (6, .int .i64 0) :: bH b, [], 7⟩) (fun k => k ≤ l.length ∧ knE b l = knL b l k (l.length - k)) (fun k => l.length - k) 0 ⟨by omega, rfl⟩ (Sim.less [] (by rfl) R_ R_) fun k hk => ?_
  obtain ⟨hk, hkn⟩ := hk
  by_cases hkl : k < l.length
  · rw [show l.length - k = (l.length - (k + 1)) + 1 by omega] at hkn
    unfold knL at hkn
    have hget : l.getD ((k : Nat) : Int).toNat 0 = l.getD k 0 := by rw [Int.toNat_natCast]
    have htl : (l.take k).length ≤ 9223372036854775807 := by rw [List.length_take]; omega
    by_cases hz : kn b (l.take k) (l.getD k 0) ≠ 0
    · rw [if_pos hz] at hkn
      have he := ask_kn (c := c) hbad (by rw [hkn]; exact hz)
      rw [hkn] at he
      obtain ⟨E, hE⟩ : ∃ E, kn b (l.take k) (l.getD k 0) = E := ⟨_, rfl⟩
      rw [hE] at hz he
      have k1 := OkP.args (known_pan b hb (l.take k) htl (l.getD k 0) E hE hz) (Imp.pair (Imp.refl _) (Imp.pair (Imp.refl _) (Imp.pair (liV_take0 hk) (Imp.refl _))))
      rw [← hget] at k1
      repeat' (first | (refine VC.regionX 5 (by rfl) ?_) | (first | with_reducible refine VC.seq ?_ | with_reducible refine VC.block ?_ | with_reducible refine VC.region ?_ | with_reducible refine VC.exit ?_ | with_reducible refine VC.ret ?_ | with_reducible refine VC.skip ?_ | with_reducible refine Seq.nil ?_ | with_reducible refine thenQ_n ?_ | with_reducible refine thenQ_r ?_ | with_reducible refine thenQ_e ?_ | with_reducible refine inQ_n ?_ | with_reducible refine inQ_r ?_ | with_reducible refine inQ_e ?_ | ((with_reducible refine inQ_o ?_ ?_); rfl) | (refine Seq.ev0 true tt_ok (by rfl) (by (first | exact trivial | exact u8_in _ rfl | exact u32_in _ rfl | ((with_reducible refine AllP.guard ?_); simp only [AllP, inI, fitV, maxK, inK, inbL, inb, List.append, List.cons_append, List.nil_append, true_and, and_true]; first | done | omega))) rfl rfl rfl ?_) | (refine Seq.ev true tt_ok (by rfl) (by (first | exact trivial | exact u8_in _ rfl | exact u32_in _ rfl | ((with_reducible refine AllP.guard ?_); simp only [AllP, inI, fitV, maxK, inK, inbL, inb, List.append, List.cons_append, List.nil_append, true_and, and_true]; first | done | omega))) rfl rfl rfl ?_) | (refine Seq.evn true tt_ok (by rfl) (by (first | exact trivial | exact u8_in _ rfl | exact u32_in _ rfl | ((with_reducible refine AllP.guard ?_); simp only [AllP, inI, fitV, maxK, inK, inbL, inb, List.append, List.cons_append, List.nil_append, true_and, and_true]; first | done | omega))) rfl ?_) | (refine Seq.pass (by rfl) rfl ?_)) | (refine VC.litT (by rfl) LTR_ ?_) | fail)
      refine call_pan false [] [] (bH b) 7 (k1) Tryd.func43 GOk.nil subG.nil (by rfl) (by rfl) rfl rfl rfl rfl rfl (by rfl) (by rfl) (by rfl) VW_ NI_ R_ (noFrL_ok NI_) BK_ ?_
      refine .inr ⟨6, rfl, hA, hG, .inr ⟨_, _, _, rfl, by rfl, ?_⟩⟩
      exact retC_mk [(6, .ptr 6 [])] ((6, .int .i64 E) :: bH b) 7 (Sim.less [] (by rfl) R_ R_) (retQ_ok (by rfl) (bH b) (subL_ok ⟨rfl, rfl, rfl, rfl, rfl, trivial⟩) (.inl ⟨by rw [he]; exact hz, by rw [he], rfl⟩))
    · rw [if_neg hz] at hkn
      have hz : kn b (l.take k) (l.getD k 0) = 0 := Decidable.byContradiction hz
      have k1 := Ok.args (known_ok b hb (l.take k) htl (l.getD k 0) hz) (Imp.pair (Imp.refl _) (Imp.pair (Imp.refl _) (Imp.pair (liV_take0 hk) (Imp.refl _))))
      rw [← hget] at k1
      repeat' (first | (refine SS_ ?_) | (refine Seq.callo false [] [] (.tup .nul) (bH b) 7 (k1) Tryd.func43 GOk.nil subG.nil (by rfl) (by rfl) rfl rfl rfl rfl rfl (by rfl) rfl (by rfl) (by rfl) (by rfl) (by rfl) VW_ NI_ R_ (noFrL_ok NI_) BK_ ?_) | (refine VC.litT (by rfl) LTR_ ?_) | fail)
      refine ⟨k + 1, ⟨by omega, hkn⟩, by omega, ?_⟩
      exact (Sim.less [] (by rfl) R_ R_)
  obtain rfl : k = l.length := by omega
  have hk0 : knE b l = 0 := by rw [hkn, Nat.sub_self]; rfl
  have hall := knL_all (show knL b l 0 l.length = 0 from hk0)
  have k2 := copy_ok b hb
  repeat' (first | (refine SS_ ?_) | (refine Seq.callo false [] [(7, 5), (8, 6), (9, 7), (10, 8), (11, 9)] (.ptr 7 []) ((7, .pair (.sl 8 [] 4 0 b.A.length) (.pair (.sl 9 [] 4 0 b.O.length) (.pair (.sl 10 [] 1 0 b.W.length) (.pair (.sl 11 [] 1 0 b.R.length) .nul)))) :: (8, acsO b.A) :: (9, acsO b.O) :: (10, liO b.W) :: (11, boO b.R) :: bH b) 12 (k2) Tryd.func11 GOk.nil subG.nil (by rfl) (by rfl) rfl rfl rfl rfl rfl (by rfl) rfl (by rfl) (by rfl) (by rfl) (by rfl) VW_ NI_ R_ (noFrL_ok NI_) BK_ ?_) | (refine VC.litF (by rfl) LFA_ ?_) | fail)
  refine VC.loop (fun k : Nat => ⟨[(55, .int .i64 (k : Nat)), (54, .int .i64 l.length), (53, liV l), (12, .sl 13 [] 1 0 b.O.length), (11, .fn (.func 44) .nul (.pair (.ptr 12 []) .nul)), (10, .ptr 12 []), (9, .ptr 7 []), (0, .ptr 0 []), (1, liV l), (5, .ptr 5 []), (6, .ptr 6 [])], (13, .arr b.O.length 1 (fun i => .int .i64 ((cnt b.W (l.take k) i : Nat) : Int))) :: (12, .bool (chK b l c k).2) :: (7, .pair (.sl 8 [] 4 0 b.A.length) (.pair (.sl 9 [] 4 0 b.O.length) (.pair (.sl 10 [] 1 0 b.W.length) (.pair (.sl 11 [] 1 0 b.R.length) .nul)))) :: (8, .arr b.A.length 4 (fun i => accA ((chK b l c k).1.getD i accZ))) :: (9, acsO b.O) :: (10, liO b.W) :: (11, boO b.R) :: (5, ratA c) :: (6, .int .i64 0) :: bH b, [], 14⟩) (fun k => k ≤ l.length ∧ (chK b l c k).1.length = b.A.length ∧ (∀ x ∈ (chK b l c k).1, AOk x) ∧ askP b l c = chg (chK b l c k).1 (chK b l c k).2 c (l.drop k)) (fun k => l.length - k) 0 ⟨by omega, rfl, hb.a, rfl⟩ (by
    (refine Sim.less [] (by rfl) ?_ ?_ <;> (repeat' (first | (exact EnvLe.nil) | (exact HeapLe.nil) | (with_reducible apply EnvLe.cons) | (with_reducible apply HeapLe.cons) | ((with_reducible refine RelA.int ?_; first | (refine Keep.mk ?_; first | with_reducible rfl | omega | decide) | skip)) | (exact rfl) | (exact ⟨rfl, rfl⟩) | ((with_reducible refine RelA.rsl ?_; intro i hi)) | ((with_reducible refine RelA.arr ?_; intro i hi)) | (with_reducible refine RelA.pair ?_ ?_) | ((refine RelA.arr ?_; intro i hi)) | (refine RelA.fn ?_ ?_) | fail)) <;> (try with_reducible refine Keep.mk ?_))
    all_goals exact rfl) fun k hk => ?_
  obtain ⟨hk, hAl, hAo, hP⟩ := hk
  by_cases hkl : k < l.length
  · rw [chg_step hkl] at hP
    have hst : chK b l c (k + 1) = ((chK b l c k).1.set (l.getD k 0).toNat (acV ((chK b l c k).1.getD (l.getD k 0).toNat accZ) c), (chK b l c k).2 || acO ((chK b l c k).1.getD (l.getD k 0).toNat accZ) c) := rfl
    have hcs := fun o => cnt_step (W := b.W) hkl o
    have hcl := fun o => cnt_le b.W (l.take k) o
    rw [show (l.take k).length = k by rw [List.length_take]; omega] at hcl
    generalize hT2 : chK b l c (k + 1) = T2 at *
    generalize chK b l c k = T at *
    obtain ⟨A, ov⟩ := T
    have hget : l.getD ((k : Nat) : Int).toNat 0 = l.getD k 0 := by rw [Int.toNat_natCast]
    have hp := kn_zero (hall k (by omega) (by omega))
    rw [← hget] at hp hP hst hcs
    generalize hpp : l.getD ((k : Nat) : Int).toNat 0 = p at *
    have hi : 0 + p.toNat < b.A.length := by omega
    by_cases hz : acE (A.getD (0 + p.toNat) accZ) c ≠ 0
    · obtain ⟨E, hE⟩ : ∃ E, acE (A.getD (0 + p.toNat) accZ) c = E := ⟨_, rfl⟩
      rw [hE] at hz
      have hPE : (askP b l c).e = E := by
        rw [Nat.zero_add] at hE
        rw [hP, if_pos (by rw [hE]; exact hz)]; exact hE
      have he := ask_P hbad hk0 (by rw [hPE]; exact hz)
      rw [hPE] at he
      have k1 := ch_pan' A b.A.length (0 + p.toNat) hAl hi hna (get_ok hAo (by rw [hAl]; exact hi)) c hc ov E hE hz
      clear hP hst hcs
      subst hpp
      repeat' (first | (refine SS_ ?_) | (refine VC.drawX (id := 16) [(0, 0), (1, 0), (2, 2), (3, 6), (4, 14), (5, 0), (6, 62), (7, 0)] 8 255 [] (by rfl) (by kernel_rfl) (by rfl) (by rfl) ?_) | (refine VC.litT (by rfl) LTR_ ?_) | (refine DD_ ?_) | fail)
      refine DSeq.nil ?_
      refine ⟨rfl, PanTo.drawn (by rfl) ?_⟩
      refine call_pan false [(1, 8), (5, 12)] [(8, 1), (12, 5)] ([(8, .arr b.A.length 4 (fun i => accA (A.getD i accZ))), (12, .bool ov)]) 14 (k1) Tryd.func44 GOk.nil subG.nil (by rfl) (by rfl) rfl rfl rfl rfl rfl (by rfl) (by rfl) (by rfl) VW_ NI_ R_ (noFrL_ok NI_) BK_ ?_
      refine .inr ⟨6, rfl, hA, hG, .inr ⟨_, _, _, rfl, by rfl, ?_⟩⟩
      exact retC_mk [(6, .ptr 6 [])] ((6, .int .i64 E) :: bH b) 14 (Sim.less [] (by rfl) R_ R_) (retQ_ok (by rfl) (bH b) (subL_ok ⟨rfl, rfl, rfl, rfl, rfl, trivial⟩) (.inl ⟨by rw [he]; exact hz, by rw [he], rfl⟩))
    · have hz : acE (A.getD (0 + p.toNat) accZ) c = 0 := Decidable.byContradiction hz
      have k1 := ch_ok' A b.A.length (0 + p.toNat) hAl hi hna (get_ok hAo (by rw [hAl]; exact hi)) c hc ov hz _ _ rfl rfl
      have hz' := hz
      rw [Nat.zero_add] at hz'
      rw [if_neg (fun h => h hz')] at hP
      have hg1 : (A.set p.toNat (acV (A.getD p.toNat accZ) c)) = (A.set (0 + p.toNat) (acV (A.getD (0 + p.toNat) accZ) c)) := by rw [Nat.zero_add]
      have hg2 : (ov || acO (A.getD p.toNat accZ) c) = (ov || acO (A.getD (0 + p.toNat) accZ) c) := by rw [Nat.zero_add]
      have hlen : (A.set (0 + p.toNat) (acV (A.getD (0 + p.toNat) accZ) c)).length = b.A.length := by rw [List.length_set]; exact hAl
      have hnew : ∀ x ∈ A.set (0 + p.toNat) (acV (A.getD (0 + p.toNat) accZ) c), AOk x := set_ok hAo (acV_ok (get_ok hAo (by rw [hAl]; exact hi)) hc hz)
      simp only [hg1, hg2] at hP hst
      generalize A.set (0 + p.toNat) (acV (A.getD (0 + p.toNat) accZ) c) = B at *
      generalize (ov || acO (A.getD (0 + p.toNat) accZ) c) = o at *
      have hw := hww (b.W.getD (0 + p.toNat) 0) (getD_mem (by omega))
      have hc13 := hcl (0 + (b.W.getD (0 + p.toNat) 0).toNat)
      subst hpp
      repeat' (first | (refine SS_ ?_) | (refine VC.drawm (id := 16) [(0, 0), (1, 0), (2, 2), (3, 6), (4, 14), (5, 0), (6, 62), (7, 0)] [8] (by rfl) (by kernel_rfl) (by rfl) ?_) | (refine Seq.callo false [(1, 8), (5, 12)] [(8, 1), (12, 5)] (.tup .nul) ([(8, .arr b.A.length 4 (fun i => accA (B.getD i accZ))), (12, .bool o)]) 14 (k1) Tryd.func44 GOk.nil subG.nil (by rfl) (by rfl) rfl rfl rfl rfl rfl (by rfl) rfl (by rfl) (by rfl) (by rfl) (by rfl) VW_ NI_ R_ (noFrL_ok NI_) BK_ ?_) | (refine VC.litT (by rfl) LTR_ ?_) | (refine DD_ ?_) | fail)
      refine ⟨k + 1, ⟨by omega, by rw [hT2, hst]; exact hlen, by rw [hT2, hst]; exact hnew, by rw [hT2, hst]; exact hP⟩, by omega, ?_⟩
      rw [hT2, hst]
      (refine Sim.less [] (by rfl) ?_ ?_ <;> (repeat' (first | (exact EnvLe.nil) | (exact HeapLe.nil) | (with_reducible apply EnvLe.cons) | (with_reducible apply HeapLe.cons) | ((with_reducible refine RelA.int ?_; first | (refine Keep.mk ?_; first | with_reducible rfl | omega | decide) | skip)) | (exact rfl) | (exact ⟨rfl, rfl⟩) | ((with_reducible refine RelA.rsl ?_; intro i hi)) | ((with_reducible refine RelA.arr ?_; intro i hi)) | (with_reducible refine RelA.pair ?_ ?_) | (refine RelA.fn ?_ ?_) | fail)) <;> (try with_reducible refine Keep.mk ?_))
      exact rel_cnt hw.1 (fun o => by rw [hcs, Nat.zero_add])
  obtain rfl : k = l.length := by omega
  rw [List.drop_length] at hP
  have hPe : (askP b l c).e = 0 := by rw [hP]; rfl
  have hPA : (chK b l c l.length).1 = (askP b l c).A := by rw [hP]; rfl
  have hPo : (chK b l c l.length).2 = (askP b l c).ov := by rw [hP]; rfl
  rw [List.take_of_length_le (Nat.le_refl l.length)]
  rw [hPA] at hAl hAo ⊢
  rw [hPo]
  have haO : askO b l c = chO b.W l c 0 b.O.length b.O (askP b l c).ov := rfl
  generalize hov : (askP b l c).ov = ov at *
  generalize hAA : (askP b l c).A = A at *
  repeat' (first | (refine SS_ ?_) | (refine VC.litF (by rfl) LFA_ ?_) | fail)
  refine VC.loop (fun o : Nat => ⟨[(83, .int .i64 (o : Nat)), (82, .int .i64 b.O.length), (81, .sl 13 [] 1 0 b.O.length), (12, .sl 13 [] 1 0 b.O.length), (11, .fn (.func 44) .nul (.pair (.ptr 12 []) .nul)), (10, .ptr 12 []), (9, .ptr 7 []), (0, .ptr 0 []), (1, liV l), (5, .ptr 5 []), (6, .ptr 6 [])], (13, .arr b.O.length 1 (fun i => .int .i64 ((cnt b.W l i : Nat) : Int))) :: (12, .bool (chOK b l c ov o).2) :: (7, .pair (.sl 8 [] 4 0 b.A.length) (.pair (.sl 9 [] 4 0 b.O.length) (.pair (.sl 10 [] 1 0 b.W.length) (.pair (.sl 11 [] 1 0 b.R.length) .nul)))) :: (8, .arr b.A.length 4 (fun i => accA (A.getD i accZ))) :: (9, .arr b.O.length 4 (fun i => accA ((chOK b l c ov o).1.getD i accZ))) :: (10, liO b.W) :: (11, boO b.R) :: (5, ratA c) :: (6, .int .i64 0) :: bH b, [], 14⟩) (fun o => o ≤ b.O.length ∧ (chOK b l c ov o).1.length = b.O.length ∧ (∀ x ∈ (chOK b l c ov o).1, AOk x) ∧ askO b l c = chO b.W l c o (b.O.length - o) (chOK b l c ov o).1 (chOK b l c ov o).2) (fun o => b.O.length - o) 0 ⟨by omega, rfl, hb.o, by rw [haO]; rfl⟩ (by
    (refine Sim.less [] (by rfl) ?_ ?_ <;> (repeat' (first | (exact EnvLe.nil) | (exact HeapLe.nil) | (with_reducible apply EnvLe.cons) | (with_reducible apply HeapLe.cons) | ((with_reducible refine RelA.int ?_; first | (refine Keep.mk ?_; first | with_reducible rfl | omega | decide) | skip)) | (exact rfl) | (exact ⟨rfl, rfl⟩) | ((with_reducible refine RelA.rsl ?_; intro i hi)) | ((with_reducible refine RelA.arr ?_; intro i hi)) | (with_reducible refine RelA.pair ?_ ?_) | (refine RelA.fn ?_ ?_) | fail)) <;> (try with_reducible refine Keep.mk ?_))
    all_goals exact rfl) fun o ho => ?_
  obtain ⟨ho, hOl, hOo, hO⟩ := ho
  by_cases hol : o < b.O.length
  · rw [show b.O.length - o = (b.O.length - (o + 1)) + 1 by omega] at hO
    rw [chO] at hO
    have hst : chOK b l c ov (o + 1) = if cnt b.W l o = 0 then chOK b l c ov o else ((chOK b l c ov o).1.set o (acV ((chOK b l c ov o).1.getD o accZ) (shr c (cnt b.W l o) l.length)), (chOK b l c ov o).2 || acO ((chOK b l c ov o).1.getD o accZ) (shr c (cnt b.W l o) l.length)) := rfl
    have hoo : 0 + ((o : Nat) : Int).toNat = o := by rw [Nat.zero_add, Int.toNat_natCast]
    have hcl := cnt_le b.W l o
    generalize hT2 : chOK b l c ov (o + 1) = T2 at *
    generalize chOK b l c ov o = T at *
    by_cases hkz : cnt b.W l o = 0
    · rw [if_pos hkz] at hst
      rw [if_pos hkz] at hO
      subst hst
      rw [← hoo] at hkz
      obtain ⟨B, o1⟩ := T2
      repeat' (first | (refine SS_ ?_) | (refine VC.litT (by rfl) LTR_ ?_) | (refine VC.litF (by rfl) LFA_ ?_) | fail)
      refine ⟨o + 1, ⟨by omega, by rw [hT2]; exact hOl, by rw [hT2]; exact hOo, by rw [hT2]; exact hO⟩, by omega, ?_⟩
      rw [hT2]
      exact (Sim.less [] (by rfl) R_ R_)
    · rw [if_neg hkz] at hst
      rw [if_neg hkz] at hO
      obtain ⟨B, o1⟩ := T
      have hOi : 0 + ((o : Nat) : Int).toNat < b.O.length := by omega
      obtain ⟨j, hj⟩ : ∃ j, 0 + ((o : Nat) : Int).toNat = j := ⟨_, rfl⟩
      have hjo : j = o := by omega
      have hcj : cnt b.W l o = cnt b.W l (0 + ((o : Nat) : Int).toNat) := by rw [hoo]
      have hgj : B.getD o accZ = B.getD (0 + ((o : Nat) : Int).toNat) accZ := by rw [hoo]
      have hsj : ∀ v : Bg.Acc, B.set o v = B.set (0 + ((o : Nat) : Int).toNat) v := fun v => by rw [hoo]
      rw [hcj] at hkz hcl
      simp only [hcj, hgj, hsj] at hst hO
      have hcp : 0 < cnt b.W l (0 + ((o : Nat) : Int).toNat) := by omega
      obtain ⟨s1, s2, s3⟩ := mk_small hcp hcl hl
      have hw1 : ((cnt b.W l (0 + ((o : Nat) : Int).toNat) : Nat) : Int) ≤ 256 := by omega
      have m1 := make_ok ((cnt b.W l (0 + ((o : Nat) : Int).toNat) : Nat) : Int) (l.length : Int) ⟨by omega, by omega⟩ ⟨by omega, by omega⟩
      rw [s1] at m1
      have m2 := must_ok (mkV ((cnt b.W l (0 + ((o : Nat) : Int).toNat) : Nat) : Int) (l.length : Int))
      have u1 := mul_ok c (mkV ((cnt b.W l (0 + ((o : Nat) : Int).toNat) : Nat) : Int) (l.length : Int)) hr (valid_r64 s2)
      have hsc := shr_cost hc hcp hcl hl
      unfold shr shrE at *
      generalize mkV ((cnt b.W l (0 + ((o : Nat) : Int).toNat) : Nat) : Int) (l.length : Int) = M at *
      generalize mulV c M = V at *
      by_cases hz1 : mulE c M ≠ 0
      · obtain ⟨E, hE⟩ : ∃ E, mulE c M = E := ⟨_, rfl⟩
        rw [hE] at hz1 u1 hO
        rw [if_pos hz1] at hO
        have he := ask_O hbad hk0 hPe (by rw [hO]; exact hz1)
        rw [hO] at he
        have he : askE b l c = E := he
        have mp := must_pan V E hz1
        clear hst hO hcj hgj hsj
        repeat' (first | (refine SS_ ?_) | (refine Seq.callp false (m1) Tryd.func47 GOk.nil subG.nil (by rfl) (by rfl) rfl rfl rfl rfl rfl (by rfl) rfl VW_ NI_ NI_ FR_ ?_) | (refine Seq.callp false (m2) Tryd.func45 GOk.nil subG.nil (by rfl) (by rfl) rfl rfl rfl rfl rfl (by rfl) rfl VW_ NI_ NI_ FR_ ?_) | (refine VC.drawX (id := 24) [(0, 0), (1, 0), (2, 2), (3, 6), (4, 14), (5, 0), (6, 62), (7, 0), (8, 0), (9, 384), (10, 896), (11, 896)] 12 3968 [13] (by rfl) (by kernel_rfl) (by rfl) (by rfl) ?_) | (refine DSeq.callp false (u1) Tryd.func48 GOk.nil subG.nil (by rfl) (fastE (by rfl)) (fastH (by rfl)) (by rfl) (by rfl) rfl rfl rfl rfl rfl (by rfl) (by rfl) VW_ NI_ NI_ FR_ ?_) | (refine VC.litT (by rfl) LTR_ ?_) | (refine DD_ ?_) | fail)
        refine DSeq.nil ?_
        refine ⟨rfl, PanTo.drawn (by rfl) ?_⟩
        refine call_pan false [] [] ([]) 15 (mp) Tryd.func45 GOk.nil subG.nil (by rfl) (by rfl) rfl rfl rfl rfl rfl (by rfl) (by rfl) (by rfl) VW_ NI_ R_ (noFrL_ok NI_) BK_ ?_
        refine .inr ⟨6, rfl, hA, hG, .inr ⟨_, _, _, rfl, by rfl, ?_⟩⟩
        exact retC_mk [(6, .ptr 6 [])] ((6, .int .i64 E) :: bH b) 15 (Sim.less [] (by rfl) R_ R_) (retQ_ok (by rfl) (bH b) (subL_ok ⟨rfl, rfl, rfl, rfl, rfl, trivial⟩) (.inl ⟨by rw [he]; exact hz1, by rw [he], rfl⟩))
      · have hz1 : mulE c M = 0 := Decidable.byContradiction hz1
        rw [hz1] at u1 hO
        rw [if_neg (fun h => h rfl)] at hO
        have hVc := hsc hz1
        have mp := must_ok V
        by_cases hz2 : acE (B.getD (0 + ((o : Nat) : Int).toNat) accZ) V ≠ 0
        · rw [if_pos hz2] at hO
          obtain ⟨E, hE⟩ : ∃ E, acE (B.getD (0 + ((o : Nat) : Int).toNat) accZ) V = E := ⟨_, rfl⟩
          rw [hE] at hz2 hO
          have he := ask_O hbad hk0 hPe (by rw [hO]; exact hz2)
          rw [hO] at he
          have he : askE b l c = E := he
          have k1 := ch_pan' B b.O.length (0 + ((o : Nat) : Int).toNat) hOl hOi (by omega) (get_ok hOo (by rw [hOl]; exact hOi)) V hVc o1 E hE hz2
          clear hst hO hcj hgj hsj
          repeat' (first | (refine SS_ ?_) | (refine Seq.callp false (m1) Tryd.func47 GOk.nil subG.nil (by rfl) (by rfl) rfl rfl rfl rfl rfl (by rfl) rfl VW_ NI_ NI_ FR_ ?_) | (refine Seq.callp false (m2) Tryd.func45 GOk.nil subG.nil (by rfl) (by rfl) rfl rfl rfl rfl rfl (by rfl) rfl VW_ NI_ NI_ FR_ ?_) | (refine VC.drawX (id := 24) [(0, 0), (1, 0), (2, 2), (3, 6), (4, 14), (5, 0), (6, 62), (7, 0), (8, 0), (9, 384), (10, 896), (11, 896), (12, 3968)] 13 8191 [] (by rfl) (by kernel_rfl) (by rfl) (by rfl) ?_) | (refine DSeq.callp false (u1) Tryd.func48 GOk.nil subG.nil (by rfl) (fastE (by rfl)) (fastH (by rfl)) (by rfl) (by rfl) rfl rfl rfl rfl rfl (by rfl) (by rfl) VW_ NI_ NI_ FR_ ?_) | (refine DSeq.callp false (mp) Tryd.func45 GOk.nil subG.nil (by rfl) (fastE (by rfl)) (fastH (by rfl)) (by rfl) (by rfl) rfl rfl rfl rfl rfl (by rfl) (by rfl) VW_ NI_ NI_ FR_ ?_) | (refine VC.litT (by rfl) LTR_ ?_) | (refine DD_ ?_) | fail)
          refine DSeq.nil ?_
          refine ⟨rfl, PanTo.drawn (by rfl) ?_⟩
          refine call_pan false [(1, 9), (5, 12)] [(9, 1), (12, 5)] ([(9, .arr b.O.length 4 (fun i => accA (B.getD i accZ))), (12, .bool o1)]) 15 (k1) Tryd.func44 GOk.nil subG.nil (by rfl) (by rfl) rfl rfl rfl rfl rfl (by rfl) (by rfl) (by rfl) VW_ NI_ R_ (noFrL_ok NI_) BK_ ?_
          refine .inr ⟨6, rfl, hA, hG, .inr ⟨_, _, _, rfl, by rfl, ?_⟩⟩
          exact retC_mk [(6, .ptr 6 [])] ((6, .int .i64 E) :: bH b) 15 (Sim.less [] (by rfl) R_ R_) (retQ_ok (by rfl) (bH b) (subL_ok ⟨rfl, rfl, rfl, rfl, rfl, trivial⟩) (.inl ⟨by rw [he]; exact hz2, by rw [he], rfl⟩))
        · have hz2 : acE (B.getD (0 + ((o : Nat) : Int).toNat) accZ) V = 0 := Decidable.byContradiction hz2
          rw [if_neg (fun h => h hz2)] at hO
          have k1 := ch_ok' B b.O.length (0 + ((o : Nat) : Int).toNat) hOl hOi (by omega) (get_ok hOo (by rw [hOl]; exact hOi)) V hVc o1 hz2 _ _ rfl rfl
          have hlen : (B.set (0 + ((o : Nat) : Int).toNat) (acV (B.getD (0 + ((o : Nat) : Int).toNat) accZ) V)).length = b.O.length := by rw [List.length_set]; exact hOl
          have hnew := set_ok (i := 0 + ((o : Nat) : Int).toNat) hOo (acV_ok (get_ok hOo (by rw [hOl]; exact hOi)) hVc hz2)
          generalize B.set (0 + ((o : Nat) : Int).toNat) (acV (B.getD (0 + ((o : Nat) : Int).toNat) accZ) V) = B2 at *
          generalize (o1 || acO (B.getD (0 + ((o : Nat) : Int).toNat) accZ) V) = o2 at *
          repeat' (first | (refine SS_ ?_) | (refine Seq.callp false (m1) Tryd.func47 GOk.nil subG.nil (by rfl) (by rfl) rfl rfl rfl rfl rfl (by rfl) rfl VW_ NI_ NI_ FR_ ?_) | (refine Seq.callp false (m2) Tryd.func45 GOk.nil subG.nil (by rfl) (by rfl) rfl rfl rfl rfl rfl (by rfl) rfl VW_ NI_ NI_ FR_ ?_) | (refine VC.drawm (id := 24) [(0, 0), (1, 0), (2, 2), (3, 6), (4, 14), (5, 0), (6, 62), (7, 0), (8, 0), (9, 384), (10, 896), (11, 896), (12, 3968)] [13] (by rfl) (by kernel_rfl) (by rfl) ?_) | (refine DSeq.callp false (u1) Tryd.func48 GOk.nil subG.nil (by rfl) (fastE (by rfl)) (fastH (by rfl)) (by rfl) (by rfl) rfl rfl rfl rfl rfl (by rfl) (by rfl) VW_ NI_ NI_ FR_ ?_) | (refine DSeq.callp false (mp) Tryd.func45 GOk.nil subG.nil (by rfl) (fastE (by rfl)) (fastH (by rfl)) (by rfl) (by rfl) rfl rfl rfl rfl rfl (by rfl) (by rfl) VW_ NI_ NI_ FR_ ?_) | (refine Seq.callo false [(1, 9), (5, 12)] [(9, 1), (12, 5)] (.tup .nul) ([(9, .arr b.O.length 4 (fun i => accA (B2.getD i accZ))), (12, .bool o2)]) 15 (k1) Tryd.func44 GOk.nil subG.nil (by rfl) (by rfl) rfl rfl rfl rfl rfl (by rfl) rfl (by rfl) (by rfl) (by rfl) (by rfl) VW_ NI_ R_ (noFrL_ok NI_) BK_ ?_) | (refine VC.litT (by rfl) LTR_ ?_) | (refine DD_ ?_) | fail)
          refine ⟨o + 1, ⟨by omega, by rw [hT2, hst]; exact hlen, by rw [hT2, hst]; exact hnew, by rw [hT2, hst]; exact hO⟩, by omega, ?_⟩
          rw [hT2, hst]
          exact (Sim.less [] (by rfl) R_ R_)
  obtain rfl : o = b.O.length := by omega
  rw [Nat.sub_self] at hO
  have hOe : (askO b l c).e = 0 := by rw [hO]; rfl
  have hOA : (chOK b l c ov b.O.length).1 = (askO b l c).A := by rw [hO]; rfl
  have hOo2 : (chOK b l c ov b.O.length).2 = (askO b l c).ov := by rw [hO]; rfl
  have he := ask_end hbad hk0 hPe hOe
  have hB : askE b l c = 0 → askB b l c = ⟨A, (askO b l c).A, b.W, b.R⟩ := fun h => by unfold askB; rw [if_pos h, hAA]
  rw [hOA] at hOl hOo ⊢
  rw [hOo2]
  generalize (askO b l c).A = B at *
  generalize (askO b l c).ov = o2 at *
  cases o2 with
  | true =>
    repeat' (first | (refine SS_ ?_) | (refine VC.litT (by rfl) LTR_ ?_) | (refine VC.litF (by rfl) LFA_ ?_) | fail)
    refine .inr ⟨6, rfl, hA, hG, .inl ?_⟩
    have he : askE b l c = 22 := he
    exact retC_mk [(6, .ptr 6 [])] ((6, .int .i64 22) :: bH b) 14 (Sim.less [] (by rfl) R_ R_) (retQ_ok (by rfl) (bH b) (subL_ok ⟨rfl, rfl, rfl, rfl, rfl, trivial⟩) (.inl ⟨by rw [he]; decide, by rw [he], rfl⟩))
  | false =>
    repeat' (first | (refine SS_ ?_) | (refine VC.litF (by rfl) LFA_ ?_) | fail)
    refine .inr ⟨6, rfl, hA, hG, .inl ?_⟩
    have he : askE b l c = 0 := he
    have hB := hB he
    refine retC_mk [(6, .ptr 6 [])] [(0, bkN b.A.length b.O.length b.W.length b.R.length), (7, .arr b.A.length 4 (fun i => accA (A.getD i accZ))), (8, .arr b.O.length 4 (fun i => accA (B.getD i accZ))), (9, liO b.W), (10, boO b.R), (6, .int .i64 0)] 14 (Sim.less [(7, 8), (8, 9), (9, 10), (10, 11)] (by rfl) R_ R_) (retQ_ok (by rfl) [(0, bkN b.A.length b.O.length b.W.length b.R.length), (7, .arr b.A.length 4 (fun i => accA (A.getD i accZ))), (8, .arr b.O.length 4 (fun i => accA (B.getD i accZ))), (9, liO b.W), (10, boO b.R)] (subL_ok ⟨rfl, rfl, rfl, rfl, rfl, trivial⟩) (.inr ⟨he, rfl, ?_⟩))
    rw [hB]
    show _ = [(0, bkN A.length B.length b.W.length b.R.length), (7, .arr A.length 4 (fun i => accA (A.getD i accZ))), (8, .arr B.length 4 (fun i => accA (B.getD i accZ))), (9, liO b.W), (10, boO b.R)]
    rw [hAl, hOl]
theorem ask_err (b : Bk) (hb : BOk b) (l : List Int) (hl : l.length ≤ 256) (c : Rq) (hr : R64 c) (e : Int) (he : askE b l c = e) (hne : e ≠ 0) : Ok Tryd.prog 29 [] (bH b) (.pair (.ptr 0 []) (.pair (liV l) (.pair (ratA c) .nul))) (fun v h' => v = .int .i64 e ∧ h' = bH b) :=
  Ok.imp (ask_ok b hb l hl c hr) fun r h' h => by
    rcases h with ⟨_, h1, h2⟩ | ⟨h0, _, _⟩
    · exact ⟨r, Imp.refl _, by rw [h1, he], h2⟩
    · exact absurd (he.symm.trans h0) hne
theorem ask_fine (b : Bk) (hb : BOk b) (l : List Int) (hl : l.length ≤ 256) (c : Rq) (hr : R64 c) (he : askE b l c = 0) : Ok Tryd.prog 29 [] (bH b) (.pair (.ptr 0 []) (.pair (liV l) (.pair (ratA c) .nul))) (fun v h' => v = .int .i64 0 ∧ h' = nbH (askB b l c)) :=
  Ok.imp (ask_ok b hb l hl c hr) fun r h' h => by
    rcases h with ⟨h0, _, _⟩ | ⟨_, h1, h2⟩
    · exact absurd he h0
    · exact ⟨r, Imp.refl _, h1, h2⟩
end Go.Proofs.YtdbebdjnpckfdaaDoor
