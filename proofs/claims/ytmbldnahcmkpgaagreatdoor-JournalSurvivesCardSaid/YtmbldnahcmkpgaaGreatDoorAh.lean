/- Journals: the reference's Unpack; Unpack of the program. -/
import Derived.Test.YtmbldnahcmkpgaaGreatDoorAg
set_option linter.unusedSimpArgs false
set_option linter.unusedVariables false
namespace Go.Proofs.YtmbldnahcmkpgaaGreatDoor
open Go.V Go.RowKit Go.L Go.Lx Go.Jn Go.Dk
set_option maxRecDepth 10000
set_option maxHeartbeats 4000000
theorem chkd_iff {s : Bs} (h : s.length = 64) : chkd (s.take 56) = s ↔ sum8 (s.take 56) = s.drop 56:=by
  unfold chkd
  constructor
  · intro e
    have:=congrArg (List.drop 56) e
    rwa [List.drop_left' (by rw [List.length_take];omega)] at this
  · intro e
    rw [e,List.take_append_drop]
theorem runpack_ok (s : Bs) (hs : s.length ≤ 9223372036854775807) : Ok Tryz.prog 53 gR [] (.pair (.str s) .nul) (fun r h'=>r = partA (unp s)∧h' = []):=by
  by_cases h64 : s.length = 64
  · have c1 := rchecked_ok (s.take 56) (by rw [List.length_take];omega)
    have g1:=number_ok (s.take 4) (by rw [List.length_take];omega)
    have g2:=number_ok ((s.take 6).drop 4) (by rw [List.length_drop,List.length_take];omega)
    have g3:=number_ok ((s.take 8).drop 6) (by rw [List.length_drop,List.length_take];omega)
    rw [show val ((s.take 6).drop 4) = secPart s by rw [List.drop_take];rfl] at g2
    rw [show val ((s.take 8).drop 6) = secLeft s by rw [List.drop_take];rfl] at g3
    have b1:=num_le s
    have b2:=part_le s
    have b3:=left_le s
    change Ok _ _ _ _ _ (fun r h'=>r = .int .i64 (secNum s : Nat)∧h' = []) at g1
    have fs:=fun (h : Fine s)=>(chkd_iff h64).2 h.sum
    have fn : Fine s→1 ≤ secNum s∧secNum s ≤ 4096∧48 * secPart s + secLeft s ≤ 8000∧(1 ≤ secLeft s ∨ secPart s = 0):=fun h=>⟨h.n1,h.n2,h.small,h.left⟩
    have fz : Fine s→∀ i,i < 56→8 + min (secLeft s) 48 ≤ i→s.getD i 0 = 0:=fun h=>h.zero
    have ff : chkd (s.take 56) = s→1 ≤ secNum s∧secNum s ≤ 4096∧48 * secPart s + secLeft s ≤ 8000∧(1 ≤ secLeft s ∨ secPart s = 0)→(∀ i,i < 56→8 + min (secLeft s) 48 ≤ i→s.getD i 0 = 0)→Fine s:=fun h1 h2 h3=>⟨h64,(chkd_iff h64).1 h1,h2.1,h2.2.1,h2.2.2.1,h2.2.2.2,h3⟩
    have hu:=fun h=>unp_yes (s:=s) h
    have hv:=fun h=>unp_no (s:=s) h
    generalize chkd (s.take 56) = cs at *
    generalize secNum s = num at *
    generalize secPart s = part at *
    generalize secLeft s = left at *
    generalize hnn : min left 48 = nn at *
    have hnl : nn ≤ 48:=by omega
    have hl56 : (List.drop 0 (List.take (Int.toNat 56) s)).length = 56:=by rw [List.drop_zero,List.length_take,h64];rfl
    refine Ok.of_vcC tt_ok Tryz.func53 rfl rfl (by show 1 ≤ _;decide) 0 (hlt_ok (by rfl)) fun c0=>?_
    by_cases hsum : cs = s
    · have hne : decide (cs ≠ s) = false:=decide_eq_false fun h=>h hsum
      repeat' (first | (refine Seq.same 25 (u':=.bool false) (by rfl) (congrArg AV.bool hne) ?_) | (refine VC.conv (x:=.seq (.region 9 _ _) _) (s':=⟨[(4,.int .i64 (nn : Nat)),(3,.ptr 1 []),(2,.ptr 0 []),(0,.str s)],[(1,partV num part left [] true),(0,partZ)],gR,2⟩) ?_ (VC.seq ?_)) | (first | with_reducible refine VC.seq ?_ | with_reducible refine VC.block ?_ | with_reducible refine VC.region ?_ | with_reducible refine VC.exit ?_ | with_reducible refine VC.ret ?_ | with_reducible refine VC.skip ?_ | with_reducible refine Seq.nil ?_ | with_reducible refine thenQ_n ?_ | with_reducible refine thenQ_r ?_ | with_reducible refine thenQ_e ?_ | with_reducible refine inQ_n ?_ | with_reducible refine inQ_r ?_ | with_reducible refine inQ_e ?_ | ((with_reducible refine inQ_o ?_ ?_);rfl) | (refine Seq.ev0 true tt_ok (by rfl) (by (first | exact trivial | exact u8_in _ rfl | exact u32_in _ rfl | ((with_reducible refine AllP.guard ?_);simp only [AllP,inI,fitV,maxK,inK,inbL,inb,List.append,List.cons_append,List.nil_append,true_and,and_true];first | done | omega))) rfl rfl rfl ?_) | (refine Seq.ev true tt_ok (by rfl) (by (first | exact trivial | exact u8_in _ rfl | exact u32_in _ rfl | ((with_reducible refine AllP.guard ?_);simp only [AllP,inI,fitV,maxK,inK,inbL,inb,List.append,List.cons_append,List.nil_append,true_and,and_true];first | done | omega))) rfl rfl rfl ?_) | (refine Seq.evn true tt_ok (by rfl) (by (first | exact trivial | exact u8_in _ rfl | exact u32_in _ rfl | ((with_reducible refine AllP.guard ?_);simp only [AllP,inI,fitV,maxK,inK,inbL,inb,List.append,List.cons_append,List.nil_append,true_and,and_true];first | done | omega))) rfl ?_) | (refine Seq.pass (by rfl) rfl ?_)) | (refine DSeq.callp false (g1) Tryz.func78 gR_ok subG.nil (by rfl) (fastE (by rfl)) (fastH (by rfl)) (by rfl) (by rfl) rfl rfl rfl rfl rfl (by rfl) (by rfl) VW_ NI_ NI_ FR_ ?_) | (refine DSeq.callp false (g2) Tryz.func78 gR_ok subG.nil (by rfl) (fastE (by rfl)) (fastH (by rfl)) (by rfl) (by rfl) rfl rfl rfl rfl rfl (by rfl) (by rfl) VW_ NI_ NI_ FR_ ?_) | (refine DSeq.callp false (g3) Tryz.func78 gR_ok subG.nil (by rfl) (fastE (by rfl)) (fastH (by rfl)) (by rfl) (by rfl) rfl rfl rfl rfl rfl (by rfl) (by rfl) VW_ NI_ NI_ FR_ ?_) | (refine Seq.callp false (c1) Tryz.func79 gR_ok subG.refl (by rfl) (by rfl) rfl rfl rfl rfl rfl (by rfl) rfl VW_ NI_ NI_ FR_ ?_) | (refine VC.drawm (id:=3) [(0,0),(1,1),(2,3),(3,0),(4,8),(5,31),(6,0),(7,64),(8,255),(9,511),(10,0)] [11] (by rfl) (by kernel_rfl) (by rfl) ?_) | (refine VC.litT (by rfl) LTR_ ?_) | (refine VC.litF (by rfl) LFA_ ?_) | (refine DD_ ?_) | (refine Seq.litC (by rfl) (by rfl) (fun hb=>?_) (fun hb=>?_) <;> (fail_if_success (with_reducible have:=litT_ hb)) <;> (fail_if_success (with_reducible have:=litF_ hb)) <;> (try simp only [HB_] at hb) <;> (try (exfalso;first | omega | (cases hb;done)))) | (refine VC.cond (by rfl) (fun hb=>?_) (fun hb=>?_) <;> (fail_if_success (with_reducible have:=litT_ hb)) <;> (fail_if_success (with_reducible have:=litF_ hb)) <;> (try simp only [HB_] at hb) <;> (try (exfalso;first | omega | (cases hb;done)))) | fail)
      all_goals first | (rw [hv (fun hf=>by have:=fn hf;omega)];(refine retC_mk ([(2,.ptr 0 [])]) ([(0,partZ)]) 2 (Sim.less [] (by rfl) R_ R_) (retQ_ok (by rfl) [] nil_sub ⟨?_,?_⟩)) <;> rfl) | (exact (Sim.less [] (by rfl) R_ R_);done) | skip
      all_goals
        refine VC.loop (fun k : Nat=>⟨[(5,.int .i64 (k : Nat)),(4,.int .i64 (nn : Nat)),(3,.ptr 1 []),(2,.ptr 0 []),(0,.str s)],[(1,partV num part left [] true),(0,partZ)],gR,2⟩) (fun k=>8 + nn ≤ k∧k ≤ 56∧∀ i,i < k→8 + nn ≤ i→s.getD i 0 = 0) (fun k=>56 - k) (8 + nn) ⟨Nat.le_refl _,by omega,fun i h1 h2=>by omega⟩ (Sim.less [] (by rfl) R_ R_) fun k hk=>?_
        obtain ⟨hk1,hk2,hk3⟩:=hk
        by_cases hk56 : k < 56
        · by_cases hz : s.getD k 0 = 0
          · have hz2 : (s.getD ((k : Int)).toNat 0).toNat = 0:=by rw [Int.toNat_natCast,hz];rfl
            have hzb : decide ((((s.getD ((k : Int)).toNat 0).toNat : Nat) : Int) ≠ 0) = false:=decide_eq_false fun h=>h (by rw [hz2];rfl)
            repeat' (first | (refine Seq.same 69 (u':=.bool false) (by rfl) (congrArg AV.bool hzb) ?_) | (first | with_reducible refine VC.seq ?_ | with_reducible refine VC.block ?_ | with_reducible refine VC.region ?_ | with_reducible refine VC.exit ?_ | with_reducible refine VC.ret ?_ | with_reducible refine VC.skip ?_ | with_reducible refine Seq.nil ?_ | with_reducible refine thenQ_n ?_ | with_reducible refine thenQ_r ?_ | with_reducible refine thenQ_e ?_ | with_reducible refine inQ_n ?_ | with_reducible refine inQ_r ?_ | with_reducible refine inQ_e ?_ | ((with_reducible refine inQ_o ?_ ?_);rfl) | (refine Seq.ev0 true tt_ok (by rfl) (by (first | exact trivial | exact u8_in _ rfl | exact u32_in _ rfl | ((with_reducible refine AllP.guard ?_);simp only [AllP,inI,fitV,maxK,inK,inbL,inb,List.append,List.cons_append,List.nil_append,true_and,and_true];first | done | omega))) rfl rfl rfl ?_) | (refine Seq.ev true tt_ok (by rfl) (by (first | exact trivial | exact u8_in _ rfl | exact u32_in _ rfl | ((with_reducible refine AllP.guard ?_);simp only [AllP,inI,fitV,maxK,inK,inbL,inb,List.append,List.cons_append,List.nil_append,true_and,and_true];first | done | omega))) rfl rfl rfl ?_) | (refine Seq.evn true tt_ok (by rfl) (by (first | exact trivial | exact u8_in _ rfl | exact u32_in _ rfl | ((with_reducible refine AllP.guard ?_);simp only [AllP,inI,fitV,maxK,inK,inbL,inb,List.append,List.cons_append,List.nil_append,true_and,and_true];first | done | omega))) rfl ?_) | (refine Seq.pass (by rfl) rfl ?_)) | (refine VC.litT (by rfl) LTR_ ?_) | (refine VC.litF (by rfl) LFA_ ?_) | fail)
            refine ⟨k + 1,⟨by omega,by omega,fun i h1 h2=>?_⟩,by omega,?_⟩
            · by_cases e : i = k
              · rw [e];exact hz
              · exact hk3 i (by omega) h2
            · exact (Sim.less [] (by rfl) R_ R_)
          · have hz2 : (s.getD ((k : Int)).toNat 0).toNat ≠ 0:=by rw [Int.toNat_natCast];exact fun e=>hz (UInt8.toNat_inj.1 e)
            have hzb : decide ((((s.getD ((k : Int)).toNat 0).toNat : Nat) : Int) ≠ 0) = true:=decide_eq_true fun h=>hz2 (by omega)
            rw [hv fun hf=>hz (fz hf k hk56 hk1)]
            repeat' (first | (refine Seq.same 69 (u':=.bool true) (by rfl) (congrArg AV.bool hzb) ?_) | (first | with_reducible refine VC.seq ?_ | with_reducible refine VC.block ?_ | with_reducible refine VC.region ?_ | with_reducible refine VC.exit ?_ | with_reducible refine VC.ret ?_ | with_reducible refine VC.skip ?_ | with_reducible refine Seq.nil ?_ | with_reducible refine thenQ_n ?_ | with_reducible refine thenQ_r ?_ | with_reducible refine thenQ_e ?_ | with_reducible refine inQ_n ?_ | with_reducible refine inQ_r ?_ | with_reducible refine inQ_e ?_ | ((with_reducible refine inQ_o ?_ ?_);rfl) | (refine Seq.ev0 true tt_ok (by rfl) (by (first | exact trivial | exact u8_in _ rfl | exact u32_in _ rfl | ((with_reducible refine AllP.guard ?_);simp only [AllP,inI,fitV,maxK,inK,inbL,inb,List.append,List.cons_append,List.nil_append,true_and,and_true];first | done | omega))) rfl rfl rfl ?_) | (refine Seq.ev true tt_ok (by rfl) (by (first | exact trivial | exact u8_in _ rfl | exact u32_in _ rfl | ((with_reducible refine AllP.guard ?_);simp only [AllP,inI,fitV,maxK,inK,inbL,inb,List.append,List.cons_append,List.nil_append,true_and,and_true];first | done | omega))) rfl rfl rfl ?_) | (refine Seq.evn true tt_ok (by rfl) (by (first | exact trivial | exact u8_in _ rfl | exact u32_in _ rfl | ((with_reducible refine AllP.guard ?_);simp only [AllP,inI,fitV,maxK,inK,inbL,inb,List.append,List.cons_append,List.nil_append,true_and,and_true];first | done | omega))) rfl ?_) | (refine Seq.pass (by rfl) rfl ?_)) | (refine VC.litT (by rfl) LTR_ ?_) | fail)
            (refine retC_mk ([(2,.ptr 0 [])]) ([(0,partZ)]) 2 (Sim.less [] (by rfl) R_ R_) (retQ_ok (by rfl) [] nil_sub ⟨?_,?_⟩)) <;> rfl
        · obtain rfl : k = 56:=by omega
          rw [hu (ff hsum ⟨by omega,by omega,by omega,by omega⟩ hk3)]
          repeat' (first | (refine SS_ ?_) | (refine VC.litF (by rfl) LFA_ ?_) | fail)
          rw [show List.drop (Int.toNat 8) (List.take (8 + (nn : Int)).toNat s) = (s.drop 8).take nn by rw [List.drop_take];exact congrArg (fun k=>List.take k (s.drop 8)) (by omega)]
          (refine retC_mk ([(2,.ptr 0 [])]) ([(0,partV num part left ((s.drop 8).take nn) true)]) 2 (Sim.less [] (by rfl) R_ R_) (retQ_ok (by rfl) [] nil_sub ⟨?_,?_⟩)) <;> rfl
    · rw [hv fun hf=>hsum (fs hf)]
      have hne : decide (cs ≠ s) = true:=decide_eq_true hsum
      repeat' (first | (refine Seq.same 25 (u':=.bool true) (by rfl) (congrArg AV.bool hne) ?_) | (first | with_reducible refine VC.seq ?_ | with_reducible refine VC.block ?_ | with_reducible refine VC.region ?_ | with_reducible refine VC.exit ?_ | with_reducible refine VC.ret ?_ | with_reducible refine VC.skip ?_ | with_reducible refine Seq.nil ?_ | with_reducible refine thenQ_n ?_ | with_reducible refine thenQ_r ?_ | with_reducible refine thenQ_e ?_ | with_reducible refine inQ_n ?_ | with_reducible refine inQ_r ?_ | with_reducible refine inQ_e ?_ | ((with_reducible refine inQ_o ?_ ?_);rfl) | (refine Seq.ev0 true tt_ok (by rfl) (by (first | exact trivial | exact u8_in _ rfl | exact u32_in _ rfl | ((with_reducible refine AllP.guard ?_);simp only [AllP,inI,fitV,maxK,inK,inbL,inb,List.append,List.cons_append,List.nil_append,true_and,and_true];first | done | omega))) rfl rfl rfl ?_) | (refine Seq.ev true tt_ok (by rfl) (by (first | exact trivial | exact u8_in _ rfl | exact u32_in _ rfl | ((with_reducible refine AllP.guard ?_);simp only [AllP,inI,fitV,maxK,inK,inbL,inb,List.append,List.cons_append,List.nil_append,true_and,and_true];first | done | omega))) rfl rfl rfl ?_) | (refine Seq.evn true tt_ok (by rfl) (by (first | exact trivial | exact u8_in _ rfl | exact u32_in _ rfl | ((with_reducible refine AllP.guard ?_);simp only [AllP,inI,fitV,maxK,inK,inbL,inb,List.append,List.cons_append,List.nil_append,true_and,and_true];first | done | omega))) rfl ?_) | (refine Seq.pass (by rfl) rfl ?_)) | (refine DSeq.callp false (g1) Tryz.func78 gR_ok subG.nil (by rfl) (fastE (by rfl)) (fastH (by rfl)) (by rfl) (by rfl) rfl rfl rfl rfl rfl (by rfl) (by rfl) VW_ NI_ NI_ FR_ ?_) | (refine DSeq.callp false (g2) Tryz.func78 gR_ok subG.nil (by rfl) (fastE (by rfl)) (fastH (by rfl)) (by rfl) (by rfl) rfl rfl rfl rfl rfl (by rfl) (by rfl) VW_ NI_ NI_ FR_ ?_) | (refine DSeq.callp false (g3) Tryz.func78 gR_ok subG.nil (by rfl) (fastE (by rfl)) (fastH (by rfl)) (by rfl) (by rfl) rfl rfl rfl rfl rfl (by rfl) (by rfl) VW_ NI_ NI_ FR_ ?_) | (refine Seq.callp false (c1) Tryz.func79 gR_ok subG.refl (by rfl) (by rfl) rfl rfl rfl rfl rfl (by rfl) rfl VW_ NI_ NI_ FR_ ?_) | (refine VC.drawm (id:=3) [(0,0),(1,1),(2,3),(3,0),(4,8),(5,31),(6,0),(7,64),(8,255),(9,511),(10,0)] [11] (by rfl) (by kernel_rfl) (by rfl) ?_) | (refine VC.litT (by rfl) LTR_ ?_) | (refine VC.litF (by rfl) LFA_ ?_) | (refine DD_ ?_) | fail)
      (refine retC_mk ([(2,.ptr 0 [])]) ([(0,partZ)]) 2 (Sim.less [] (by rfl) R_ R_) (retQ_ok (by rfl) [] nil_sub ⟨?_,?_⟩)) <;> rfl
  · refine Ok.of_vcC tt_ok Tryz.func53 rfl rfl (by show 1 ≤ _;decide) 0 (hlt_ok (by rfl)) fun c0=>?_
    repeat' (first | (refine SS_ ?_) | (refine VC.litT (by rfl) LTR_ ?_) | fail)
    rw [unp_no fun h=>h64 h.len]
    (refine retC_mk ([(2,.ptr 0 [])]) ([(0,partZ)]) 1 (Sim.less [] (by rfl) R_ R_) (retQ_ok (by rfl) [] nil_sub ⟨?_,?_⟩)) <;> rfl
end Go.Proofs.YtmbldnahcmkpgaaGreatDoor
