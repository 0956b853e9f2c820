/- The reference's Clone. The reference's disk: Rot; a new disk's sectors. -/
import Derived.Test.YtmbldnahcmkpgaaGreatDoorCb
set_option linter.unusedSimpArgs false
set_option linter.unusedVariables false
namespace Go.Proofs.YtmbldnahcmkpgaaGreatDoor
open Go.V Go.RowKit Go.L Go.Dk
variable {n : Nat} {S : List Sec} {off : Bool} {left : Int}
set_option maxRecDepth 10000
set_option maxHeartbeats 1000000
end Go.Proofs.YtmbldnahcmkpgaaGreatDoor

namespace Go.Proofs.YtmbldnahcmkpgaaGreatDoor
open Go.V Go.RowKit Go.L Go.Dk
variable {n : Nat} {S : List Sec} {B : List Bs} {P : PM} {W : WM} {off : Bool} {left I Bit : Int} {T : Bs} {Pk : List Int}
theorem max_64 {l : Int} (h : i64B l) : i64B (max (-1) l):=by
  obtain ⟨h1,h2⟩:=h
  constructor <;> omega
set_option maxRecDepth 10000 in
set_option maxHeartbeats 2000000 in
theorem rrot_ok (hR : RGood n S) (hn : n ≤ 4096) (a bit : Int) : Ok Tryz.prog 29 [] (rH n S off left) (.pair (.ptr 0 []) (.pair (.int .i64 a) (.pair (.int .i64 bit) .nul)))
    (fun r h'=>r = .int .i64 (if rotBad n a bit then 1 else 0)∧h' = rH n (if rotBad n a bit then S else S.set a.toNat ⟨flip (S.getD a.toNat secZ).T bit.toNat,(S.getD a.toNat secZ).X,(S.getD a.toNat secZ).D,(S.getD a.toNat secZ).W⟩) off left):=by
  have c1:=is_ok (n:=n) (S:=S) (off:=off) (left:=left) a
  by_cases hr : rotBad n a bit
  · rw [if_pos hr,if_pos hr]
    unfold rotBad at hr
    by_cases hbad : bad n a
    · rw [decide_eq_true hbad] at c1
      refine Ok.of_vcC tt_ok Tryz.func29 rfl rfl (by show 3 ≤ _;decide) 2 (hlt_ok (by rfl)) fun c0=>?_
      repeat' (first | (refine SS_ ?_) | (refine Seq.callo false [] [] (.bool (!true)) (rH n S off left) 2 (c1) Tryz.func44 GOk.nil subG.nil (by rfl) (by rfl) rfl rfl rfl rfl rfl (by rfl) rfl (by rfl) (by rfl) (by rfl) (by rfl) VW_ NI_ R_ (noFrL_ok NI_) BK_ ?_) | (refine VC.litT (by rfl) LTR_ ?_) | fail)
      (refine retC_mk ([(6,.int .i64 1)]) (rH n S off left) 2 (Sim.less [] (by rfl) R_ R_) (retQ_ok (by rfl) (rH n S off left) (fun i av h=>h) ⟨?_,?_⟩)) <;> rfl
    · rw [decide_eq_false hbad] at c1
      have hr : bit < 0 ∨ 512 ≤ bit:=by
        rcases hr with h | h
        · exact absurd h hbad
        · exact h
      refine Ok.of_vcC tt_ok Tryz.func29 rfl rfl (by show 3 ≤ _;decide) 2 (hlt_ok (by rfl)) fun c0=>?_
      repeat' (first | (refine SS_ ?_) | (refine Seq.callo false [] [] (.bool (!false)) (rH n S off left) 2 (c1) Tryz.func44 GOk.nil subG.nil (by rfl) (by rfl) rfl rfl rfl rfl rfl (by rfl) rfl (by rfl) (by rfl) (by rfl) (by rfl) VW_ NI_ R_ (noFrL_ok NI_) BK_ ?_) | (refine VC.litT (by rfl) LTR_ ?_) | (refine Seq.litC (by rfl) (by rfl) (fun hb=>?_) (fun hb=>?_) <;> (fail_if_success (with_reducible have:=litT_ hb)) <;> (fail_if_success (with_reducible have:=litF_ hb)) <;> (try simp only [HB_] at hb) <;> (try (exfalso;first | omega | (cases hb;done)))) | fail)
      all_goals (first | ((refine retC_mk ([(6,.int .i64 1)]) (rH n S off left) 2 (Sim.less [] (by rfl) R_ R_) (retQ_ok (by rfl) (rH n S off left) (fun i av h=>h) ⟨?_,?_⟩)) <;> rfl;done) | skip)
  · rw [if_neg hr,if_neg hr]
    unfold rotBad at hr
    have hbad : ¬ bad n a:=fun h=>hr (.inl h)
    rw [decide_eq_false hbad] at c1
    unfold bad at hr
    have hin : a.toNat < S.length:=by rw [hR.len];omega
    have ht : (S.getD a.toNat secZ).T.length = 64:=hR.t64 _ (getD_mem hin)
    have ht' : (S.getD (0 + a.toNat) secZ).T.length = 64:=by rw [Nat.zero_add];exact ht
    refine Ok.of_vcC tt_ok Tryz.func29 rfl rfl (by show 3 ≤ _;decide) 2 (hlt_ok (by rfl)) fun c0=>?_
    repeat' (first | (refine Seq.new1 (conv_strs_ok tt_ok (by rfl) (by rfl) (by rfl) (by rfl) (by omega)) (by rfl) (by rfl) ?_) | (first | with_reducible refine VC.seq ?_ | with_reducible refine VC.block ?_ | with_reducible refine VC.region ?_ | with_reducible refine VC.exit ?_ | with_reducible refine VC.ret ?_ | with_reducible refine VC.skip ?_ | with_reducible refine Seq.nil ?_ | with_reducible refine thenQ_n ?_ | with_reducible refine thenQ_r ?_ | with_reducible refine thenQ_e ?_ | with_reducible refine inQ_n ?_ | with_reducible refine inQ_r ?_ | with_reducible refine inQ_e ?_ | ((with_reducible refine inQ_o ?_ ?_);rfl) | (refine Seq.ev0 true tt_ok (by rfl) (by (first | exact trivial | exact u8_in _ rfl | exact u32_in _ rfl | ((with_reducible refine AllP.guard ?_);simp only [AllP,inI,fitV,maxK,inK,inbL,inb,List.append,List.cons_append,List.nil_append,true_and,and_true];first | done | omega))) rfl rfl rfl ?_) | (refine Seq.ev true tt_ok (by rfl) (by (first | exact trivial | exact u8_in _ rfl | exact u32_in _ rfl | ((with_reducible refine AllP.guard ?_);simp only [AllP,inI,fitV,maxK,inK,inbL,inb,List.append,List.cons_append,List.nil_append,true_and,and_true];first | done | omega))) rfl rfl rfl ?_) | (refine Seq.evn true tt_ok (by rfl) (by (first | exact trivial | exact u8_in _ rfl | exact u32_in _ rfl | ((with_reducible refine AllP.guard ?_);simp only [AllP,inI,fitV,maxK,inK,inbL,inb,List.append,List.cons_append,List.nil_append,true_and,and_true];first | done | omega))) rfl ?_) | (refine Seq.pass (by rfl) rfl ?_)) | (refine Seq.callo false [] [] (.bool (!false)) (rH n S off left) 2 (c1) Tryz.func44 GOk.nil subG.nil (by rfl) (by rfl) rfl rfl rfl rfl rfl (by rfl) rfl (by rfl) (by rfl) (by rfl) (by rfl) VW_ NI_ R_ (noFrL_ok NI_) BK_ ?_) | (refine VC.drawm (id:=4) [(0,0),(1,0),(2,2),(3,0),(4,0),(5,16),(6,56),(7,120),(8,0),(9,256),(10,768),(11,2040),(12,4095)] [13] (by rfl) (by kernel_rfl) (by rfl) ?_) | (refine VC.drawm (id:=5) [(0,0),(1,1),(2,3),(3,7),(4,0),(5,0),(6,32),(7,127),(8,255)] [9] (by rfl) (by kernel_rfl) (by rfl) ?_) | (refine Seq.lit (by rfl) (by rfl) LT2_ ?_) | (refine VC.litF (by rfl) LFA_ ?_) | (refine DD_ ?_) | fail)
    refine DSeq.str (flip (S.getD a.toNat secZ).T bit.toNat) tt_ok (by rfl) (fastE (by rfl)) (fastH (by rfl)) (by rfl) (by rfl) (by rfl) (by rfl) (by rfl) (by (first | exact trivial | exact u8_in _ rfl | exact u32_in _ rfl | ((with_reducible refine AllP.guard ?_);simp only [AllP,inI,fitV,maxK,inK,inbL,inb,List.append,List.cons_append,List.nil_append,true_and,and_true];first | done | omega))) (by rfl) (.inl rfl) (by rfl) (by rfl) ?_ ?_ ?_
    · rw [flip_len,ht,ht']
    · intro i hi
      rw [ht'] at hi
      have e8 : (bit / 8).toNat = bit.toNat / 8:=by omega
      simp only [Nat.zero_add,e8]
      rw [flip_get _ _ _ (by omega)]
      by_cases hik : i = bit.toNat / 8
      · rw [bif_eq hik,if_pos hik]
        try rw [← flip_bits _ _ (by omega)]
        try rfl
      · rw [bif_ne hik,if_neg hik]
        try rfl
    repeat' (first | (refine SS_ ?_) | (refine DD_ ?_) | fail)
    refine retC_mk ([(6,.int .i64 0)]) (rH n (S.set a.toNat ⟨flip (S.getD a.toNat secZ).T bit.toNat,(S.getD a.toNat secZ).X,(S.getD a.toNat secZ).D,(S.getD a.toNat secZ).W⟩) off left) 2 ?_ (retQ_ok (by rfl) (rH n (S.set a.toNat ⟨flip (S.getD a.toNat secZ).T bit.toNat,(S.getD a.toNat secZ).X,(S.getD a.toNat secZ).D,(S.getD a.toNat secZ).W⟩) off left) (fun i av h=>h) ⟨?_,?_⟩)
    · (refine Sim.less [] (by rfl) ?_ ?_ <;> (repeat' (first | (exact EnvLe.nil) | (exact HeapLe.nil) | (with_reducible apply EnvLe.cons) | (with_reducible apply HeapLe.cons) | ((with_reducible refine RelA.int ?_;first | (refine Keep.mk ?_;first | with_reducible rfl | omega | decide) | skip)) | (exact rfl) | (exact ⟨rfl,rfl⟩) | ((with_reducible refine RelA.arr ?_;intro i hi)) | (with_reducible refine RelA.pair ?_ ?_) | fail)) <;> (try with_reducible refine Keep.mk ?_))
      exact rel_set hin (by rw [Nat.zero_add];rfl)
    · rfl
    · rfl
theorem secs_new : secs n (List.replicate n zs) [] [] = List.replicate n sec0:=by
  refine List.ext_getElem (by rw [secs_len,List.length_replicate]) fun j h1 h2=>?_
  rw [secs_elem,List.getElem_replicate]
  rw [secs_len] at h1
  unfold secAt sec0
  rw [List.getD_eq_getElem?_getD,List.getElem?_replicate,if_pos h1];rfl
end Go.Proofs.YtmbldnahcmkpgaaGreatDoor
