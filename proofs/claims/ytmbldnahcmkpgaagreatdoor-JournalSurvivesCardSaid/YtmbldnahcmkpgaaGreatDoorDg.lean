/- Disks: Flush and Mount walk. -/
import Derived.Test.YtmbldnahcmkpgaaGreatDoorDf
set_option linter.unusedSimpArgs false
set_option linter.unusedVariables false
namespace Go.Proofs.YtmbldnahcmkpgaaGreatDoor
open Go.V Go.RowKit Go.L Go.Dk
variable {n : Nat} {B : List Bs} {P : PM} {W : WM} {off : Bool} {left : Int}
theorem Good.pb (h : Good n B P W left) : ∀ q ∈ P,i64B q.1:=fun q hq=>by
  have:=h.pin q hq
  have:=h.n1
  constructor <;> omega
def allB (picks : List Int) (B : List Bs) (P : PM) (W : WM) : List Bs × PM:=setB W picks 0 (sortI (P.map (·.1))) (B,P)
set_option maxRecDepth 10000 in
set_option maxHeartbeats 2000000 in
theorem mount_ok (h : Good n B P W left) (picks : List Int) (hpl : picks.length ≤ 9223372036854775807) : Ok Tryz.prog 21 [] (dH n B P W off left) (.pair (.ptr 0 []) (.pair (.rsl false picks.length 1 (fun i=>.int .i64 (picks.getD i 0))) .nul))
    (fun r h'=>r = .tup .nul∧h' = dH n (allB picks B P W).1 (allB picks B P W).2 W false (-1)):=by
  have c1:=pending_ok (n:=n) (B:=B) (W:=W) (off:=off) (left:=left) h.pnd h.pb (by have:=h.pl;omega)
  have hinv:=inv_take h picks
  have hsucc:=setB_succ W picks (sortI (P.map (·.1))) (B,P)
  have hLl : (sortI (P.map (·.1))).length ≤ 4096:=by
    rw [(sortI_perm _).length_eq,List.length_map];exact h.pl
  unfold allB
  generalize sortI (P.map (·.1)) = L at *
  refine Ok.of_vcC tt_ok Tryz.func21 rfl rfl (by show 2 ≤ _;decide) 4 (hlt_ok (by rfl)) fun c0=>?_
  repeat' (first | (refine SS_ ?_) | (refine Seq.callo false [] [] (intsT L) (dH n B P W off left) 4 (c1) Tryz.func61 GOk.nil subG.nil (by rfl) (by rfl) rfl rfl rfl rfl rfl (by rfl) rfl (by rfl) (by rfl) (by rfl) (by rfl) VW_ NI_ R_ (noFrL_ok NI_) BK_ ?_) | fail)
  refine VC.loop (fun k : Nat=>⟨[(10,.int .i64 (k : Nat)),(9,.int .i64 L.length),(8,intsT L),(1,.rsl false picks.length 1 (fun i=>.int .i64 (picks.getD i 0))),(0,.ptr 0 [])],dH n (setB W picks 0 (L.take k) (B,P)).1 (setB W picks 0 (L.take k) (B,P)).2 W off left,[],4⟩) (fun k=>k ≤ L.length) (fun k=>L.length - k) 0 (by omega) (by
    (refine Sim.less [] (by rfl) ?_ ?_ <;> (repeat' (first | (exact EnvLe.nil) | (exact HeapLe.nil) | (with_reducible apply EnvLe.cons) | (with_reducible apply HeapLe.cons) | ((with_reducible refine RelA.int ?_;first | (refine Keep.mk ?_;first | with_reducible rfl | omega | decide) | skip)) | (exact rfl) | (exact ⟨rfl,rfl⟩) | ((with_reducible refine RelA.rsl ?_;intro i hi)) | ((with_reducible refine RelA.arr ?_;intro i hi)) | (with_reducible refine RelA.pair ?_ ?_) | ((refine RelA.rsl ?_;intro i hi)) | ((refine RelA.arr ?_;intro i hi)) | (exact NoId.self (by first | ((repeat' (first | exact trivial | exact rfl | refine NoFr.bif ?_ ?_ | refine NoId.bif ?_ ?_ | refine AllFr.bif ?_ ?_ | (intro i hi) | (refine ⟨?_,?_⟩) | (intro e;cases e;done)));done) | fail)) | fail)) <;> (try with_reducible refine Keep.mk ?_))
    exact rfl) fun k hk=>?_
  obtain ⟨hI,hx⟩:=hinv k hk
  by_cases hkl : k < L.length
  · obtain ⟨x,hx,h64,hb1,hb2⟩:=hx hkl
    have hs:=hsucc k hkl
    rw [hx] at hs
    simp only [Option.getD_some] at hs
    have c2:=settle_ok (n:=n) (W:=W) (off:=off) (left:=left) (L.getD k 0) (pickAt picks k) hb1 hb2 hI.len hI.b64 hx h64
    rw [show (if isW W (L.getD k 0) = true then (setB W picks 0 (L.take k) (B,P)).1 else (setB W picks 0 (L.take k) (B,P)).1.set (L.getD k 0).toNat (tear (upto (pickAt picks k)) x ((setB W picks 0 (L.take k) (B,P)).1.getD (L.getD k 0).toNat []))) = (setB W picks 0 (L.take (k + 1)) (B,P)).1 by rw [hs],show mDel (setB W picks 0 (L.take k) (B,P)).2 (L.getD k 0) = (setB W picks 0 (L.take (k + 1)) (B,P)).2 by rw [hs]] at c2
    generalize hS1 : setB W picks 0 (L.take (k + 1)) (B,P) = S1 at *
    have hlk : i64B (L.getD k 0):=by
      have:=h.n1
      constructor <;> omega
    unfold pickAt at c2
    by_cases hkp : k < picks.length
    · rw [if_pos hkp] at c2
      repeat' (first | (refine SS_ ?_) | (refine Seq.callo false [] [] (.tup .nul) (dH n S1.1 S1.2 W off left) 4 (c2) Tryz.func62 GOk.nil subG.nil (by rfl) (by rfl) rfl rfl rfl rfl rfl (by rfl) rfl (by rfl) (by rfl) (by rfl) (by rfl) VW_ NI_ R_ (noFrL_ok NI_) BK_ ?_) | (refine VC.litT (by rfl) LTR_ ?_) | fail)
      refine ⟨k + 1,by omega,by omega,?_⟩
      (refine Sim.less [] (by rfl) ?_ ?_ <;> (repeat' (first | (exact EnvLe.nil) | (exact HeapLe.nil) | (with_reducible apply EnvLe.cons) | (with_reducible apply HeapLe.cons) | ((with_reducible refine RelA.int ?_;first | (refine Keep.mk ?_;first | with_reducible rfl | omega | decide) | skip)) | (exact rfl) | (exact ⟨rfl,rfl⟩) | ((with_reducible refine RelA.rsl ?_;intro i hi)) | ((with_reducible refine RelA.arr ?_;intro i hi)) | (with_reducible refine RelA.pair ?_ ?_) | ((refine RelA.rsl ?_;intro i hi)) | ((refine RelA.arr ?_;intro i hi)) | (exact NoId.self (by first | ((repeat' (first | exact trivial | exact rfl | refine NoFr.bif ?_ ?_ | refine NoId.bif ?_ ?_ | refine AllFr.bif ?_ ?_ | (intro i hi) | (refine ⟨?_,?_⟩) | (intro e;cases e;done)));done) | fail)) | fail)) <;> (try with_reducible refine Keep.mk ?_))
      · rw [hS1]
      · rw [hS1];exact NoId.self (a:=pendA S1.2) NI_
    · rw [if_neg hkp] at c2
      repeat' (first | (refine SS_ ?_) | (refine Seq.callo false [] [] (.tup .nul) (dH n S1.1 S1.2 W off left) 4 (c2) Tryz.func62 GOk.nil subG.nil (by rfl) (by rfl) rfl rfl rfl rfl rfl (by rfl) rfl (by rfl) (by rfl) (by rfl) (by rfl) VW_ NI_ R_ (noFrL_ok NI_) BK_ ?_) | (refine VC.litT (by rfl) LTR_ ?_) | (refine VC.litF (by rfl) LFA_ ?_) | fail)
      refine ⟨k + 1,by omega,by omega,?_⟩
      (refine Sim.less [] (by rfl) ?_ ?_ <;> (repeat' (first | (exact EnvLe.nil) | (exact HeapLe.nil) | (with_reducible apply EnvLe.cons) | (with_reducible apply HeapLe.cons) | ((with_reducible refine RelA.int ?_;first | (refine Keep.mk ?_;first | with_reducible rfl | omega | decide) | skip)) | (exact rfl) | (exact ⟨rfl,rfl⟩) | ((with_reducible refine RelA.rsl ?_;intro i hi)) | ((with_reducible refine RelA.arr ?_;intro i hi)) | (with_reducible refine RelA.pair ?_ ?_) | ((refine RelA.rsl ?_;intro i hi)) | ((refine RelA.arr ?_;intro i hi)) | (exact NoId.self (by first | ((repeat' (first | exact trivial | exact rfl | refine NoFr.bif ?_ ?_ | refine NoId.bif ?_ ?_ | refine AllFr.bif ?_ ?_ | (intro i hi) | (refine ⟨?_,?_⟩) | (intro e;cases e;done)));done) | fail)) | fail)) <;> (try with_reducible refine Keep.mk ?_))
      · rw [hS1]
      · rw [hS1];exact NoId.self (a:=pendA S1.2) NI_
  · repeat' (first | (refine SS_ ?_) | (refine VC.litF (by rfl) LFA_ ?_) | fail)
    refine retC_mk ([]) (dH n (setB W picks 0 L (B,P)).1 (setB W picks 0 L (B,P)).2 W false (-1)) 4 ?_ (retQ_ok (by rfl) (dH n (setB W picks 0 L (B,P)).1 (setB W picks 0 L (B,P)).2 W false (-1)) (fun i av h=>h) ⟨?_,?_⟩)
    · have hk2 : L.take k = L:=List.take_of_length_le (by omega)
      (refine Sim.less [] (by rfl) ?_ ?_ <;> (repeat' (first | (exact EnvLe.nil) | (exact HeapLe.nil) | (with_reducible apply HeapLe.cons) | ((with_reducible refine RelA.int ?_;first | (refine Keep.mk ?_;first | with_reducible rfl | omega | decide) | skip)) | (exact rfl) | (exact ⟨rfl,rfl⟩) | ((with_reducible refine RelA.arr ?_;intro i hi)) | (with_reducible refine RelA.pair ?_ ?_) | ((refine RelA.arr ?_;intro i hi)) | (exact NoId.self (by first | ((repeat' (first | exact trivial | exact rfl | refine NoFr.bif ?_ ?_ | refine NoId.bif ?_ ?_ | refine AllFr.bif ?_ ?_ | (intro i hi) | (refine ⟨?_,?_⟩) | (intro e;cases e;done)));done) | fail)) | fail)) <;> (try with_reducible refine Keep.mk ?_))
      · rw [hk2]
      · rw [hk2];exact NoId.self (a:=pendA (setB W picks 0 L (B,P)).2) NI_
    · rfl
    · rfl
set_option maxRecDepth 10000 in
set_option maxHeartbeats 2000000 in
theorem flush_go (h : Good n B P W left) (ho : off = false) (hl : left ≠ 0) : Ok Tryz.prog 80 [] (dH n B P W off left) (.pair (.ptr 0 []) .nul)
    (fun r h'=>r = .int .i64 0∧h' = dH n (allB [] B P W).1 (allB [] B P W).2 W off (stpL left)):=by
  have c0':=check_ok (n:=n) (B:=B) (P:=P) (W:=W) (off:=off) (left:=left) 0
  have c1':=step_ok (n:=n) (B:=B) (P:=P) (W:=W) (off:=off) h.l64
  have c1:=pending_ok (n:=n) (B:=B) (W:=W) (off:=off) (left:=stpL left) h.pnd h.pb (by have:=h.pl;omega)
  rw [show chk n off 0 = 0 by unfold chk bad;rw [ho];have:=h.n0;simp;omega] at c0'
  rw [show stpE left = 0 from if_neg hl,show stpO off left = off from if_neg hl] at c1'
  have hinv:=inv_take h []
  have hsucc:=setB_succ W [] (sortI (P.map (·.1))) (B,P)
  have hLl : (sortI (P.map (·.1))).length ≤ 4096:=by
    rw [(sortI_perm _).length_eq,List.length_map];exact h.pl
  unfold allB
  generalize sortI (P.map (·.1)) = L at *
  refine Ok.of_vcC tt_ok Tryz.func80 rfl rfl (by show 1 ≤ _;decide) 4 (hlt_ok (by rfl)) fun c0=>?_
  repeat' (first | (refine SS_ ?_) | (refine Seq.callo false [] [] (.int .i64 0) (dH n B P W off left) 4 (c0') Tryz.func42 GOk.nil subG.nil (by rfl) (by rfl) rfl rfl rfl rfl rfl (by rfl) rfl (by rfl) (by rfl) (by rfl) (by rfl) VW_ NI_ R_ (noFrL_ok NI_) BK_ ?_) | (refine Seq.callo false [] [] (.int .i64 0) (dH n B P W off (stpL left)) 4 (c1') Tryz.func43 GOk.nil subG.nil (by rfl) (by rfl) rfl rfl rfl rfl rfl (by rfl) rfl (by rfl) (by rfl) (by rfl) (by rfl) VW_ NI_ R_ (noFrL_ok NI_) BK_ ?_) | (refine Seq.callo false [] [] (intsT L) (dH n B P W off (stpL left)) 4 (c1) Tryz.func61 GOk.nil subG.nil (by rfl) (by rfl) rfl rfl rfl rfl rfl (by rfl) rfl (by rfl) (by rfl) (by rfl) (by rfl) VW_ NI_ R_ (noFrL_ok NI_) BK_ ?_) | (refine VC.litF (by rfl) LFA_ ?_) | fail)
  refine VC.loop (fun k : Nat=>⟨[(20,.int .i64 (k : Nat)),(19,.int .i64 L.length),(18,intsT L),(0,.ptr 0 [])],dH n (setB W [] 0 (L.take k) (B,P)).1 (setB W [] 0 (L.take k) (B,P)).2 W off (stpL left),[],4⟩) (fun k=>k ≤ L.length) (fun k=>L.length - k) 0 (by omega) (by
    (refine Sim.less [] (by rfl) ?_ ?_ <;> (repeat' (first | (exact EnvLe.nil) | (exact HeapLe.nil) | (with_reducible apply EnvLe.cons) | (with_reducible apply HeapLe.cons) | ((with_reducible refine RelA.int ?_;first | (refine Keep.mk ?_;first | with_reducible rfl | omega | decide) | skip)) | (exact rfl) | (exact ⟨rfl,rfl⟩) | ((with_reducible refine RelA.arr ?_;intro i hi)) | (with_reducible refine RelA.pair ?_ ?_) | ((refine RelA.rsl ?_;intro i hi)) | ((refine RelA.arr ?_;intro i hi)) | (exact NoId.self (by first | ((repeat' (first | exact trivial | exact rfl | refine NoFr.bif ?_ ?_ | refine NoId.bif ?_ ?_ | refine AllFr.bif ?_ ?_ | (intro i hi) | (refine ⟨?_,?_⟩) | (intro e;cases e;done)));done) | fail)) | fail)) <;> (try with_reducible refine Keep.mk ?_))
    exact rfl) fun k hk=>?_
  obtain ⟨hI,hx⟩:=hinv k hk
  by_cases hkl : k < L.length
  · obtain ⟨x,hx,h64,hb1,hb2⟩:=hx hkl
    have hs:=hsucc k hkl
    rw [hx] at hs
    simp only [Option.getD_some] at hs
    have c2:=settle_ok (n:=n) (W:=W) (off:=off) (left:=stpL left) (L.getD k 0) (pickAt [] k) hb1 hb2 hI.len hI.b64 hx h64
    rw [show (if isW W (L.getD k 0) = true then (setB W [] 0 (L.take k) (B,P)).1 else (setB W [] 0 (L.take k) (B,P)).1.set (L.getD k 0).toNat (tear (upto (pickAt [] k)) x ((setB W [] 0 (L.take k) (B,P)).1.getD (L.getD k 0).toNat []))) = (setB W [] 0 (L.take (k + 1)) (B,P)).1 by rw [hs],show mDel (setB W [] 0 (L.take k) (B,P)).2 (L.getD k 0) = (setB W [] 0 (L.take (k + 1)) (B,P)).2 by rw [hs]] at c2
    generalize hS1 : setB W [] 0 (L.take (k + 1)) (B,P) = S1 at *
    have hlk : i64B (L.getD k 0):=by
      have:=h.n1
      constructor <;> omega
    unfold pickAt at c2
    rw [if_neg (by simp)] at c2
    repeat' (first | (refine SS_ ?_) | (refine Seq.callo false [] [] (.tup .nul) (dH n S1.1 S1.2 W off (stpL left)) 4 (c2) Tryz.func62 GOk.nil subG.nil (by rfl) (by rfl) rfl rfl rfl rfl rfl (by rfl) rfl (by rfl) (by rfl) (by rfl) (by rfl) VW_ NI_ R_ (noFrL_ok NI_) BK_ ?_) | (refine VC.litT (by rfl) LTR_ ?_) | fail)
    refine ⟨k + 1,by omega,by omega,?_⟩
    (refine Sim.less [] (by rfl) ?_ ?_ <;> (repeat' (first | (exact EnvLe.nil) | (exact HeapLe.nil) | (with_reducible apply EnvLe.cons) | (with_reducible apply HeapLe.cons) | ((with_reducible refine RelA.int ?_;first | (refine Keep.mk ?_;first | with_reducible rfl | omega | decide) | skip)) | (exact rfl) | (exact ⟨rfl,rfl⟩) | ((with_reducible refine RelA.arr ?_;intro i hi)) | (with_reducible refine RelA.pair ?_ ?_) | ((refine RelA.rsl ?_;intro i hi)) | ((refine RelA.arr ?_;intro i hi)) | (exact NoId.self (by first | ((repeat' (first | exact trivial | exact rfl | refine NoFr.bif ?_ ?_ | refine NoId.bif ?_ ?_ | refine AllFr.bif ?_ ?_ | (intro i hi) | (refine ⟨?_,?_⟩) | (intro e;cases e;done)));done) | fail)) | fail)) <;> (try with_reducible refine Keep.mk ?_))
    · rw [hS1]
    · rw [hS1];exact NoId.self (a:=pendA S1.2) NI_
  · repeat' (first | (refine SS_ ?_) | (refine VC.litF (by rfl) LFA_ ?_) | fail)
    refine retC_mk ([(2,.int .i64 0)]) (dH n (setB W [] 0 L (B,P)).1 (setB W [] 0 L (B,P)).2 W off (stpL left)) 4 ?_ (retQ_ok (by rfl) (dH n (setB W [] 0 L (B,P)).1 (setB W [] 0 L (B,P)).2 W off (stpL left)) (fun i av h=>h) ⟨?_,?_⟩)
    · have hk2 : L.take k = L:=List.take_of_length_le (by omega)
      (refine Sim.less [] (by rfl) ?_ ?_ <;> (repeat' (first | (exact EnvLe.nil) | (exact HeapLe.nil) | (with_reducible apply EnvLe.cons) | (with_reducible apply HeapLe.cons) | ((with_reducible refine RelA.int ?_;first | (refine Keep.mk ?_;first | with_reducible rfl | omega | decide) | skip)) | (exact rfl) | (exact ⟨rfl,rfl⟩) | ((with_reducible refine RelA.arr ?_;intro i hi)) | (with_reducible refine RelA.pair ?_ ?_) | ((refine RelA.arr ?_;intro i hi)) | (exact NoId.self (by first | ((repeat' (first | exact trivial | exact rfl | refine NoFr.bif ?_ ?_ | refine NoId.bif ?_ ?_ | refine AllFr.bif ?_ ?_ | (intro i hi) | (refine ⟨?_,?_⟩) | (intro e;cases e;done)));done) | fail)) | fail)) <;> (try with_reducible refine Keep.mk ?_))
      · rw [hk2]
      · rw [hk2];exact NoId.self (a:=pendA (setB W [] 0 L (B,P)).2) NI_
    · rfl
    · rfl
set_option maxRecDepth 10000 in
theorem flush_off (ho : off = true) : Ok Tryz.prog 80 [] (dH n B P W off left) (.pair (.ptr 0 []) .nul)
    (fun r h'=>r = .int .i64 20∧h' = dH n B P W off left):=by
  have c0':=check_ok (n:=n) (B:=B) (P:=P) (W:=W) (off:=off) (left:=left) 0
  rw [show chk n off 0 = 20 by unfold chk;rw [if_pos ho]] at c0'
  refine Ok.of_vcC tt_ok Tryz.func80 rfl rfl (by show 1 ≤ _;decide) 4 (hlt_ok (by rfl)) fun c0=>?_
  repeat' (first | (refine SS_ ?_) | (refine Seq.callo false [] [] (.int .i64 20) (dH n B P W off left) 4 (c0') Tryz.func42 GOk.nil subG.nil (by rfl) (by rfl) rfl rfl rfl rfl rfl (by rfl) rfl (by rfl) (by rfl) (by rfl) (by rfl) VW_ NI_ R_ (noFrL_ok NI_) BK_ ?_) | (refine VC.litT (by rfl) LTR_ ?_) | fail)
  refine retC_mk ([(2,.int .i64 20)]) (dH n B P W off left) 4 ?_ (retQ_ok (by rfl) (dH n B P W off left) (fun i av h=>h) ⟨?_,?_⟩)
  · exact (Sim.less [] (by rfl) R_ R_)
  · rfl
  · rfl
set_option maxRecDepth 10000 in
theorem flush_trip (h0 : 0 < n) (ho : off = false) (hl : left = 0) : Ok Tryz.prog 80 [] (dH n B P W off left) (.pair (.ptr 0 []) .nul)
    (fun r h'=>r = .int .i64 20∧h' = dH n B P W true left):=by
  have c0':=check_ok (n:=n) (B:=B) (P:=P) (W:=W) (off:=off) (left:=left) 0
  have c1':=step_ok (n:=n) (B:=B) (P:=P) (W:=W) (off:=off) (left:=left) (by rw [hl];constructor <;> decide)
  rw [show chk n off 0 = 0 by unfold chk bad;rw [ho];simp;omega] at c0'
  rw [show stpE left = 20 from if_pos hl,show stpO off left = true from if_pos hl,show stpL left = left from if_neg (by omega)] at c1'
  refine Ok.of_vcC tt_ok Tryz.func80 rfl rfl (by show 1 ≤ _;decide) 4 (hlt_ok (by rfl)) fun c0=>?_
  repeat' (first | (refine SS_ ?_) | (refine Seq.callo false [] [] (.int .i64 0) (dH n B P W off left) 4 (c0') Tryz.func42 GOk.nil subG.nil (by rfl) (by rfl) rfl rfl rfl rfl rfl (by rfl) rfl (by rfl) (by rfl) (by rfl) (by rfl) VW_ NI_ R_ (noFrL_ok NI_) BK_ ?_) | (refine Seq.callo false [] [] (.int .i64 20) (dH n B P W true left) 4 (c1') Tryz.func43 GOk.nil subG.nil (by rfl) (by rfl) rfl rfl rfl rfl rfl (by rfl) rfl (by rfl) (by rfl) (by rfl) (by rfl) VW_ NI_ R_ (noFrL_ok NI_) BK_ ?_) | (refine VC.litT (by rfl) LTR_ ?_) | (refine VC.litF (by rfl) LFA_ ?_) | fail)
  refine retC_mk ([(2,.int .i64 20)]) (dH n B P W true left) 4 ?_ (retQ_ok (by rfl) (dH n B P W true left) (fun i av h=>h) ⟨?_,?_⟩)
  · exact (Sim.less [] (by rfl) R_ R_)
  · rfl
  · rfl
end Go.Proofs.YtmbldnahcmkpgaaGreatDoor
