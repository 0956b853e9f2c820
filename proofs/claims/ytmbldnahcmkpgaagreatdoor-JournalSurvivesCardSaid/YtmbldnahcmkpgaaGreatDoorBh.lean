/- The reference's journals: their memory; Open. -/
import Derived.Test.YtmbldnahcmkpgaaGreatDoorBe
import Derived.Test.YtmbldnahcmkpgaaGreatDoorAh
set_option linter.unusedSimpArgs false
set_option linter.unusedVariables false
namespace Go.Proofs.YtmbldnahcmkpgaaGreatDoor
open Go.V Go.RowKit Go.L Go.Lx Go.Jn Go.Dk
set_option maxRecDepth 10000
set_option maxHeartbeats 4000000
abbrev rD (n : Nat) (D : Disk) (left : Int) : Asc:=rH n (secs n D.B D.P D.W) D.off left
abbrev rjA (a b c : Nat) (N B : List Int) (T : List Bs) (next : Int) (stop : Nat) (shut : Bool) : AV:=.pair (.ptr 0 []) (.pair (.sl a [] 1 0 N.length) (.pair (.sl c [] 1 0 T.length) (.pair (.sl b [] 1 0 B.length) (.pair (.int .i64 next) (.pair (.int .i64 (stop : Nat)) (.pair (.bool shut) .nul))))))
abbrev rjH (n : Nat) (D : Disk) (left : Int) (J : Jr) : Asc:=(2,rjA 3 4 5 (nums J) J.bad (texts J) J.next J.stop J.shut)::(3,liO (nums J))::(4,liO J.bad)::(5,txO (texts J))::rD n D left
abbrev roJ (n : Nat) (D : Disk) (left : Int) (L : List Bs) (k : Nat) : Asc:=(2,.pair (.ptr 0 []) (.pair (.sl 5 [] 1 0 0) (.pair (.sl 6 [] 1 0 0) (.pair (.sl 4 [] 1 0 (bads L k).length) (.pair (.int .i64 (nextOf L k)) (.pair (.int .i64 (stopAt L k : Nat)) (.pair (.bool false) .nul)))))))::(3,.arr k 5 (fun i=>partA ((L.map unp).getD i noPart)))::(4,.arr (bads L k).length 1 (fun i=>.int .i64 ((bads L k).getD i 0)))::(5,.arr 0 1 (fun i=>.int .i64 (([] : List Int).getD i 0)))::(6,.arr 0 1 (fun i=>.str (([] : List Bs).getD i [])))::rD n D left
theorem ropen_ok {n : Nat} {D : Disk} {left : Int} (hG : GoodD n D) (ho : D.off = false) : Ok Tryz.prog 12 gR (rD n D left) (.pair (.ptr 0 []) .nul) (fun r h'=>r = .tup (.pair (.ptr 2 []) (.pair (.int .i64 0) .nul))∧h' = rjH n D left (opn (rdL n D))):=by
  have hlL:=rdL_len n D
  have hgL:=fun k (h : k < n)=>rdL_get (D:=D) h
  have h64:=fun k (h : k < n)=>rd_64 hG ho h
  have cl:=rlen_ok (n:=n) (S:=secs n D.B D.P D.W) (off:=D.off) (left:=left)
  have cr:=fun k (h : k < n)=>rread_ok (n:=n) (S:=secs n D.B D.P D.W) (off:=D.off) (left:=left) (k : Nat)
  have hn:=hG.n1
  refine Ok.of_vcC tt_ok Tryz.func12 rfl rfl (by show 1 ≤ _;decide) 2 (hlt_ok (by rfl)) fun c0=>?_
  repeat' (first | (refine SS_ ?_) | fail)
  refine VC.conv (s':=⟨[(6,.int .i64 ((0 : Nat) : Int)),(5,.val (.slice none 0 0)),(4,.ptr 2 []),(0,.ptr 0 [])],(2,.pair (.ptr 0 []) (.pair (.val (.slice none 0 0)) (.pair (.val (.slice none 0 0)) (.pair (.val (.slice none 0 0)) (.pair (.int .i64 1) (.pair (.int .i64 ((0 : Nat) : Int)) (.pair (.bool false) .nul)))))))::rD n D left,gR,3⟩) (Sim.less [] (by rfl) R_ R_) ?_
  refine VC.conv (Sim.ghost 5 5 (fun _=>.nul) (by rfl) (.inl rfl)) ?_
  refine VC.conv (Sim.ghostF 2 3 1 (fun i=>.int .i64 (([] : List Int).getD i 0)) (by rfl) (by rfl) (by rfl)) ?_
  refine VC.conv (Sim.ghostF 2 1 1 (fun i=>.int .i64 (([] : List Int).getD i 0)) (by rfl) (by rfl) (by rfl)) ?_
  refine VC.conv (Sim.ghostF 2 2 1 (fun i=>.str (([] : List Bs).getD i [])) (by rfl) (by rfl) (by rfl)) ?_
  generalize hLL : rdL n D = L at *
  refine VC.loop (fun k : Nat=>⟨[(6,.int .i64 (k : Nat)),(5,.sl 3 [] 5 0 k),(4,.ptr 2 []),(0,.ptr 0 [])],roJ n D left L k,gR,7⟩) (fun k=>k ≤ n) (fun k=>n - k) 0 (by omega) (by
    (refine Sim.less [] (by rfl) ?_ ?_ <;> (repeat' (first | (exact EnvLe.nil) | (exact HeapLe.nil) | (with_reducible apply EnvLe.cons) | (with_reducible apply HeapLe.cons) | ((with_reducible refine RelA.int ?_;first | (refine Keep.mk ?_;first | with_reducible rfl | omega | decide) | skip)) | (exact rfl) | (exact ⟨rfl,rfl⟩) | ((with_reducible refine RelA.arr ?_;intro i hi)) | (with_reducible refine RelA.pair ?_ ?_) | ((refine RelA.arr ?_;intro i hi)) | fail)) <;> (try with_reducible refine Keep.mk ?_))
    all_goals first | rfl | exact absurd (by assumption) (Nat.not_lt_zero _)) fun k hk=>?_
  by_cases hkn : k < n
  · have rd:=cr k hkn
    rw [read_secs,← hgL k hkn] at rd
    have hs:=h64 k hkn
    rw [← hgL k hkn] at hs
    rw [show chk n D.off (k : Nat) = 0 by rw [ho];exact chk_in hkn] at rd
    have cu:=runpack_ok (L.getD k []) (by omega)
    have cb:=rblank_ok (L.getD k []) (by omega)
    have pk:=unp_pok (L.getD k [])
    have e1 : bads L (k + 1) = if (unp (L.getD k [])).ok = false∧¬ isBlank (L.getD k []) then bads L k ++ [(k : Int)] else bads L k:=rfl
    have e2 : stopAt L (k + 1) = if isBlank (L.getD k []) then stopAt L k else k + 1:=rfl
    have e3 : nextOf L (k + 1) = max (nextOf L k) ((unp (L.getD k [])).num + 1):=rfl
    have hlp : (L.map unp).getD k noPart = unp (L.getD k []):=by
      rw [List.getD_eq_getElem?_getD,List.getD_eq_getElem?_getD,List.getElem?_map,List.getElem?_eq_getElem (by omega)];rfl
    have hbl:=bads_len L k
    have hnx:=nextOf_le L k
    have hst:=stopAt_le L k
    generalize hp : unp (L.getD k []) = p at *
    generalize L.getD k [] = s at *
    obtain ⟨q1,q2,q3,q4,q5⟩:=p
    have pk1 : q1 ≤ 4096:=pk.num
    have en : (⟨q1,q2,q3,q4,q5⟩ : Part).num = q1:=rfl
    by_cases hz : isBlank s
    · rw [if_pos hz] at e2
      rw [if_neg (fun h=>h.2 hz)] at e1
      rw [decide_eq_true hz] at cb
      repeat' (first | (refine SS_ ?_) | (refine Seq.callo false [] [] (.int .i64 n) (rD n D left) 7 (cl) Tryz.func51 gR_ok subG.nil (by rfl) (by rfl) rfl rfl rfl rfl rfl (by rfl) rfl (by rfl) (by rfl) (by rfl) (by rfl) VW_ NI_ R_ (noFrL_ok NI_) BK_ ?_) | (refine Seq.callo false [] [] (.tup (.pair (.str s) (.pair (.int .i64 0) .nul))) (rD n D left) 7 (rd) Tryz.func52 gR_ok subG.nil (by rfl) (by rfl) rfl rfl rfl rfl rfl (by rfl) rfl (by rfl) (by rfl) (by rfl) (by rfl) VW_ NI_ R_ (noFrL_ok NI_) BK_ ?_) | (refine Seq.callp false (cu) Tryz.func53 gR_ok subG.refl (by rfl) (by rfl) rfl rfl rfl rfl rfl (by rfl) rfl VW_ NI_ NI_ FR_ ?_) | (refine Seq.callp false (cb) Tryz.func54 gR_ok subG.nil (by rfl) (by rfl) rfl rfl rfl rfl rfl (by rfl) rfl VW_ NI_ NI_ FR_ ?_) | (refine VC.drawm (id:=16) [(0,0),(1,1),(2,0),(3,4),(4,12),(5,28),(6,63)] [] (by rfl) (by kernel_rfl) (by rfl) ?_) | (refine VC.litT (by rfl) LTR_ ?_) | (refine VC.litF (by rfl) LFA_ ?_) | (refine DD_ ?_) | (refine Seq.litC (by rfl) (by rfl) (fun hb=>?_) (fun hb=>?_) <;> (fail_if_success (with_reducible have:=litT_ hb)) <;> (fail_if_success (with_reducible have:=litF_ hb)) <;> (try simp only [HB_] at hb) <;> (try (exfalso;first | omega | (cases hb;done)))) | (refine VC.cond (by rfl) (fun hb=>?_) (fun hb=>?_) <;> (fail_if_success (with_reducible have:=litT_ hb)) <;> (fail_if_success (with_reducible have:=litF_ hb)) <;> (try simp only [HB_] at hb) <;> (try (exfalso;first | omega | (cases hb;done)))) | fail)
      all_goals
        refine ⟨k + 1,by omega,by omega,?_⟩
        unfold roJ
        rw [e1,e2,e3]
        first | rw [Int.max_eq_right (by omega)] | rw [Int.max_eq_left (by omega)]
        (refine Sim.less [(3,9)] (by rfl) ?_ ?_ <;> (repeat' (first | (exact EnvLe.nil) | (exact HeapLe.nil) | (with_reducible apply EnvLe.cons) | (with_reducible apply HeapLe.cons) | ((with_reducible refine RelA.int ?_;first | (refine Keep.mk ?_;first | with_reducible rfl | omega | decide) | skip)) | (exact rfl) | (exact ⟨rfl,rfl⟩) | ((with_reducible refine RelA.arr ?_;intro i hi)) | (with_reducible refine RelA.pair ?_ ?_) | ((refine RelA.arr ?_;intro i hi)) | fail)) <;> (try with_reducible refine Keep.mk ?_))
        all_goals first | exact rel_stepG hlp.symm (by assumption) | exact rel_snocG (G:=AV.int .i64) (fun e=>NI_) (by assumption)
    · rw [if_neg hz] at e2
      rw [decide_eq_false hz] at cb
      cases q5 with
      | true =>
        rw [if_neg (fun h=>by cases h.1)] at e1
        repeat' (first | (refine SS_ ?_) | (refine Seq.callo false [] [] (.int .i64 n) (rD n D left) 7 (cl) Tryz.func51 gR_ok subG.nil (by rfl) (by rfl) rfl rfl rfl rfl rfl (by rfl) rfl (by rfl) (by rfl) (by rfl) (by rfl) VW_ NI_ R_ (noFrL_ok NI_) BK_ ?_) | (refine Seq.callo false [] [] (.tup (.pair (.str s) (.pair (.int .i64 0) .nul))) (rD n D left) 7 (rd) Tryz.func52 gR_ok subG.nil (by rfl) (by rfl) rfl rfl rfl rfl rfl (by rfl) rfl (by rfl) (by rfl) (by rfl) (by rfl) VW_ NI_ R_ (noFrL_ok NI_) BK_ ?_) | (refine Seq.callp false (cu) Tryz.func53 gR_ok subG.refl (by rfl) (by rfl) rfl rfl rfl rfl rfl (by rfl) rfl VW_ NI_ NI_ FR_ ?_) | (refine Seq.callp false (cb) Tryz.func54 gR_ok subG.nil (by rfl) (by rfl) rfl rfl rfl rfl rfl (by rfl) rfl VW_ NI_ NI_ FR_ ?_) | (refine VC.drawm (id:=16) [(0,0),(1,1),(2,0),(3,4),(4,12),(5,28),(6,63)] [] (by rfl) (by kernel_rfl) (by rfl) ?_) | (refine VC.litT (by rfl) LTR_ ?_) | (refine VC.litF (by rfl) LFA_ ?_) | (refine DD_ ?_) | (refine VC.cond (by rfl) (fun hb=>?_) (fun hb=>?_) <;> (fail_if_success (with_reducible have:=litT_ hb)) <;> (fail_if_success (with_reducible have:=litF_ hb)) <;> (try simp only [HB_] at hb) <;> (try (exfalso;first | omega | (cases hb;done)))) | fail)
        all_goals
          refine ⟨k + 1,by omega,by omega,?_⟩
          unfold roJ
          rw [e1,e2,e3]
          first | rw [Int.max_eq_right (by omega)] | rw [Int.max_eq_left (by omega)]
          (refine Sim.less [(3,9)] (by rfl) ?_ ?_ <;> (repeat' (first | (exact EnvLe.nil) | (exact HeapLe.nil) | (with_reducible apply EnvLe.cons) | (with_reducible apply HeapLe.cons) | ((with_reducible refine RelA.int ?_;first | (refine Keep.mk ?_;first | with_reducible rfl | omega | decide) | skip)) | (exact rfl) | (exact ⟨rfl,rfl⟩) | ((with_reducible refine RelA.arr ?_;intro i hi)) | (with_reducible refine RelA.pair ?_ ?_) | ((refine RelA.arr ?_;intro i hi)) | fail)) <;> (try with_reducible refine Keep.mk ?_))
          all_goals first | exact rel_stepG hlp.symm (by assumption) | exact rel_snocG (G:=AV.int .i64) (fun e=>NI_) (by assumption)
      | false =>
        rw [if_pos ⟨rfl,hz⟩] at e1
        repeat' (first | (refine SS_ ?_) | (refine Seq.callo false [] [] (.int .i64 n) (rD n D left) 7 (cl) Tryz.func51 gR_ok subG.nil (by rfl) (by rfl) rfl rfl rfl rfl rfl (by rfl) rfl (by rfl) (by rfl) (by rfl) (by rfl) VW_ NI_ R_ (noFrL_ok NI_) BK_ ?_) | (refine Seq.callo false [] [] (.tup (.pair (.str s) (.pair (.int .i64 0) .nul))) (rD n D left) 7 (rd) Tryz.func52 gR_ok subG.nil (by rfl) (by rfl) rfl rfl rfl rfl rfl (by rfl) rfl (by rfl) (by rfl) (by rfl) (by rfl) VW_ NI_ R_ (noFrL_ok NI_) BK_ ?_) | (refine Seq.callp false (cu) Tryz.func53 gR_ok subG.refl (by rfl) (by rfl) rfl rfl rfl rfl rfl (by rfl) rfl VW_ NI_ NI_ FR_ ?_) | (refine Seq.callp false (cb) Tryz.func54 gR_ok subG.nil (by rfl) (by rfl) rfl rfl rfl rfl rfl (by rfl) rfl VW_ NI_ NI_ FR_ ?_) | (refine VC.drawm (id:=16) [(0,0),(1,1),(2,0),(3,4),(4,12),(5,28),(6,63)] [] (by rfl) (by kernel_rfl) (by rfl) ?_) | (refine VC.litT (by rfl) LTR_ ?_) | (refine VC.litF (by rfl) LFA_ ?_) | (refine DD_ ?_) | (refine VC.cond (by rfl) (fun hb=>?_) (fun hb=>?_) <;> (fail_if_success (with_reducible have:=litT_ hb)) <;> (fail_if_success (with_reducible have:=litF_ hb)) <;> (try simp only [HB_] at hb) <;> (try (exfalso;first | omega | (cases hb;done)))) | fail)
        all_goals
          refine ⟨k + 1,by omega,by omega,?_⟩
          unfold roJ
          rw [e1,e2,e3,List.length_append,List.length_singleton]
          first | rw [Int.max_eq_right (by omega)] | rw [Int.max_eq_left (by omega)]
          (refine Sim.less [(3,9),(4,11)] (by rfl) ?_ ?_ <;> (repeat' (first | (exact EnvLe.nil) | (exact HeapLe.nil) | (with_reducible apply EnvLe.cons) | (with_reducible apply HeapLe.cons) | ((with_reducible refine RelA.int ?_;first | (refine Keep.mk ?_;first | with_reducible rfl | omega | decide) | skip)) | (exact rfl) | (exact ⟨rfl,rfl⟩) | ((with_reducible refine RelA.arr ?_;intro i hi)) | (with_reducible refine RelA.pair ?_ ?_) | ((refine RelA.arr ?_;intro i hi)) | fail)) <;> (try with_reducible refine Keep.mk ?_))
          all_goals first | exact rel_stepG hlp.symm (by assumption) | exact rel_snocG (G:=AV.int .i64) (fun e=>NI_) (by assumption)
  · obtain rfl : k = n:=by omega
    repeat' (first | (refine SS_ ?_) | (refine Seq.callo false [] [] (.int .i64 k) (rD k D left) 7 (cl) Tryz.func51 gR_ok subG.nil (by rfl) (by rfl) rfl rfl rfl rfl rfl (by rfl) rfl (by rfl) (by rfl) (by rfl) (by rfl) VW_ NI_ R_ (noFrL_ok NI_) BK_ ?_) | (refine VC.litF (by rfl) LFA_ ?_) | fail)
    have hQl : (L.map unp).length = k:=by rw [List.length_map,hlL]
    have hQo : ∀ p ∈ L.map unp,POk p:=fun p hp=>by
      obtain ⟨s,_,rfl⟩:=List.mem_map.1 hp
      exact unp_pok s
    have hJ : opn L = ⟨scan 0 (L.map unp) [],bads L k,nextOf L k,stopAt L k,false⟩:=by unfold opn;rw [hlL]
    rw [hJ]
    generalize L.map unp = Q at *
    refine VC.conv (Sim.stillV (e':=[(11,.int .i64 ((0 : Nat) : Int)),(5,.rsl false k 5 (fun i=>partA (Q.getD i noPart))),(4,.ptr 2 []),(0,.ptr 0 [])]) (h':=(2,.pair (.ptr 0 []) (.pair (.sl 5 [] 1 0 0) (.pair (.sl 6 [] 1 0 0) (.pair (.sl 4 [] 1 0 (bads L k).length) (.pair (.int .i64 (nextOf L k)) (.pair (.int .i64 (stopAt L k : Nat)) (.pair (.bool false) .nul)))))))::(4,.arr (bads L k).length 1 (fun i=>.int .i64 ((bads L k).getD i 0)))::(5,.arr 0 1 (fun i=>.int .i64 (([] : List Int).getD i 0)))::(6,.arr 0 1 (fun i=>.str (([] : List Bs).getD i [])))::rD k D left) [3] (by rfl) (by repeat' (first | exact HeapV.nil | refine HeapV.cons (by rfl) VW_ NI_ (by rfl) ?_)) (EnvV.cons (by rfl) VW_ NI_ (EnvV.cons (by rfl) (view_partsN (by rfl) ⟨rfl,rfl⟩) NI_ (EnvV.cons (by rfl) VW_ NI_ (EnvV.cons (by rfl) VW_ NI_ EnvV.nil))))) ?_
    have hln0 : nextOf L k ≤ 4097:=(nextOf_le L k).2
    generalize hR : scan 0 Q [] = R at *
    refine VC.loop (fun x : Nat × List (Int × Bs)=>⟨[(11,.int .i64 (x.1 : Nat)),(5,.rsl false k 5 (fun i=>partA (Q.getD i noPart))),(4,.ptr 2 []),(0,.ptr 0 [])],(2,.pair (.ptr 0 []) (.pair (.sl 5 [] 1 0 (x.2.map (·.1)).length) (.pair (.sl 6 [] 1 0 (x.2.map (·.2)).length) (.pair (.sl 4 [] 1 0 (bads L k).length) (.pair (.int .i64 (nextOf L k)) (.pair (.int .i64 (stopAt L k : Nat)) (.pair (.bool false) .nul)))))))::(4,.arr (bads L k).length 1 (fun i=>.int .i64 ((bads L k).getD i 0)))::(5,liO (x.2.map (·.1)))::(6,txO (x.2.map (·.2)))::rD k D left,gR,7⟩) (fun x=>x.1 ≤ k∧x.2.length ≤ x.1∧scan 0 (Q.drop x.1) x.2 = R) (fun x=>k - x.1) (0,[]) ⟨Nat.zero_le _,Nat.le_refl _,hR⟩ (by
      (refine Sim.less [] (by rfl) ?_ ?_ <;> (repeat' (first | (exact EnvLe.nil) | (exact HeapLe.nil) | (with_reducible apply EnvLe.cons) | (with_reducible apply HeapLe.cons) | ((with_reducible refine RelA.int ?_;first | (refine Keep.mk ?_;first | with_reducible rfl | omega | decide) | skip)) | (exact rfl) | (exact ⟨rfl,rfl⟩) | ((with_reducible refine RelA.rsl ?_;intro i hi)) | ((with_reducible refine RelA.arr ?_;intro i hi)) | (with_reducible refine RelA.pair ?_ ?_) | ((refine RelA.arr ?_;intro i hi)) | fail)) <;> (try with_reducible refine Keep.mk ?_))
      all_goals first | exact absurd (by assumption) (Nat.not_lt_zero _) | trace_state) fun x hx=>?_
    obtain ⟨x,a⟩:=x
    obtain ⟨hx1,hx2,hx3⟩:=hx
    have hx1 : x ≤ k:=hx1
    have hx2 : a.length ≤ x:=hx2
    have hx3 : scan 0 (Q.drop x) a = R:=hx3
    show VC _ _ _ ⟨[(11,.int .i64 (x : Nat)),(5,.rsl false k 5 (fun i=>partA (Q.getD i noPart))),(4,.ptr 2 []),(0,.ptr 0 [])],(2,.pair (.ptr 0 []) (.pair (.sl 5 [] 1 0 (a.map (·.1)).length) (.pair (.sl 6 [] 1 0 (a.map (·.2)).length) (.pair (.sl 4 [] 1 0 (bads L k).length) (.pair (.int .i64 (nextOf L k)) (.pair (.int .i64 (stopAt L k : Nat)) (.pair (.bool false) .nul)))))))::(4,.arr (bads L k).length 1 (fun i=>.int .i64 ((bads L k).getD i 0)))::(5,liO (a.map (·.1)))::(6,txO (a.map (·.2)))::rD k D left,gR,7⟩
    have hln : (a.map (·.1)).length = a.length:=List.length_map _
    have hlt : (a.map (·.2)).length = a.length:=List.length_map _
    by_cases hxk : x < k
    · have hp := POk.get hQo x
      have cc:=rcount_ok (((Q.getD x noPart).left : Nat) : Int) (by have:=hp.left;constructor <;> omega)
      have hcl:=cnt_le (((Q.getD x noPart).left : Nat) : Int)
      have ex : Q.getD ((x : Nat) : Int).toNat noPart = Q.getD x noPart:=by rw [Int.toNat_natCast]
      generalize hc : cnt (((Q.getD x noPart).left : Nat) : Int) = c at *
      have hno : ∀ (hr : ¬ IsRec (Q.drop x)),scan 0 (Q.drop (x + 1)) a = R:=fun hr=>by
        rw [← hx3,scan_skip 1 (Q.drop x) a (fun j hj=>by rw [show j = 0 by omega];exact hr),List.drop_drop]
      have hL : Q.drop x ≠ []:=fun e=>by have:=congrArg List.length e;rw [List.length_drop,hQl] at this;simp at this;omega
      have h0 : (Q.drop x).getD 0 noPart = Q.getD x noPart:=Go.Jn.getD_drop
      have hrec : IsRec (Q.drop x) ↔ (Q.getD x noPart).ok = true∧(Q.getD x noPart).part = 0∧c ≤ k - x∧∀ i,i < c→(Q.getD (x + i) noPart).ok = true∧(Q.getD (x + i) noPart).num = (Q.getD x noPart).num∧(Q.getD (x + i) noPart).part = i∧(Q.getD (x + i) noPart).left + 48 * i = (Q.getD x noPart).left:=by
        rw [isRec_iff hL,h0,hc,List.length_drop,hQl]
        have hg : ∀ i,(Q.drop x).getD i noPart = Q.getD (x + i) noPart:=fun i=>Go.Jn.getD_drop
        simp only [hg]
      obtain ⟨G,hGd⟩ : ∃ G : Nat→Prop,∀ i,G i ↔ ((Q.getD (x + i) noPart).ok = true∧(Q.getD (x + i) noPart).num = (Q.getD x noPart).num∧(Q.getD (x + i) noPart).part = i∧(Q.getD (x + i) noPart).left + 48 * i = (Q.getD x noPart).left):=⟨_,fun _=>Iff.rfl⟩
      simp only [← hGd] at hrec
      repeat' (first | (refine SS_ ?_) | (refine Seq.callp false (cc) Tryz.func55 gR_ok subG.nil (by rfl) (by rfl) rfl rfl rfl rfl rfl (by rfl) rfl VW_ NI_ NI_ FR_ ?_) | (refine VC.litT (by rfl) LTR_ ?_) | (refine Seq.litC (by rfl) (by rfl) (fun hb=>?_) (fun hb=>?_) <;> (fail_if_success (with_reducible have:=litT_ hb)) <;> (fail_if_success (with_reducible have:=litF_ hb)) <;> (try simp only [HB_] at hb) <;> (try (exfalso;first | omega | (cases hb;done)))) | fail)
      · have hok : (Q.getD x noPart).ok = true:=by
          have h : (Q.getD ((x : Nat) : Int).toNat noPart).ok = true:=by assumption
          rw [ex] at h;exact h
        have hpt : (Q.getD x noPart).part = 0:=by rw [ex] at hb;omega
        by_cases hle : x + c ≤ k
        · rw [show decide ((x : Int) + (c : Int) ≤ (k : Int)) = true from decide_eq_true (by omega)]
          refine VC.loop (fun y : Nat × Bool × Bs=>⟨[(16,.int .i64 (y.1 : Nat)),(15,.bool y.2.1),(14,.str y.2.2),(13,.int .i64 (c : Nat)),(12,.ptr 7 []),(11,.int .i64 (x : Nat)),(5,.rsl false k 5 (fun i=>partA (Q.getD i noPart))),(4,.ptr 2 []),(0,.ptr 0 [])],(7,partA (Q.getD x noPart))::(2,.pair (.ptr 0 []) (.pair (.sl 5 [] 1 0 (a.map (·.1)).length) (.pair (.sl 6 [] 1 0 (a.map (·.2)).length) (.pair (.sl 4 [] 1 0 (bads L k).length) (.pair (.int .i64 (nextOf L k)) (.pair (.int .i64 (stopAt L k : Nat)) (.pair (.bool false) .nul)))))))::(4,.arr (bads L k).length 1 (fun i=>.int .i64 ((bads L k).getD i 0)))::(5,liO (a.map (·.1)))::(6,txO (a.map (·.2)))::rD k D left,gR,8⟩) (fun y=>y.1 ≤ c∧(y.2.1 = true→(∀ i,i < y.1→G i)∧y.2.2 = joined (Q.drop x) y.1)∧(y.2.1 = false→∃ i,i < c∧¬ G i)) (fun y=>c - y.1) (0,true,[]) ⟨Nat.zero_le _,fun _=>⟨fun i hi=>absurd hi (Nat.not_lt_zero _),rfl⟩,fun h=>by cases h⟩ (by
            rw [ex]
            exact (Sim.less [] (by rfl) R_ R_)) fun y hy=>?_
          obtain ⟨i,b,tx⟩:=y
          obtain ⟨y1,y2,y3⟩:=hy
          have y1 : i ≤ c:=y1
          have y2 : b = true→(∀ j,j < i→G j)∧tx = joined (Q.drop x) i:=y2
          have y3 : b = false→∃ j,j < c∧¬ G j:=y3
          show VC _ _ _ ⟨[(16,.int .i64 (i : Nat)),(15,.bool b),(14,.str tx),(13,.int .i64 (c : Nat)),(12,.ptr 7 []),(11,.int .i64 (x : Nat)),(5,.rsl false k 5 (fun i=>partA (Q.getD i noPart))),(4,.ptr 2 []),(0,.ptr 0 [])],(7,partA (Q.getD x noPart))::(2,.pair (.ptr 0 []) (.pair (.sl 5 [] 1 0 (a.map (·.1)).length) (.pair (.sl 6 [] 1 0 (a.map (·.2)).length) (.pair (.sl 4 [] 1 0 (bads L k).length) (.pair (.int .i64 (nextOf L k)) (.pair (.int .i64 (stopAt L k : Nat)) (.pair (.bool false) .nul)))))))::(4,.arr (bads L k).length 1 (fun i=>.int .i64 ((bads L k).getD i 0)))::(5,liO (a.map (·.1)))::(6,txO (a.map (·.2)))::rD k D left,gR,8⟩
          cases b with
          | false =>
            obtain ⟨j,hj,hnG⟩:=y3 rfl
            repeat' (first | (refine SS_ ?_) | (refine VC.litT (by rfl) LTR_ ?_) | (refine VC.litF (by rfl) LFA_ ?_) | fail)
            refine ⟨(x + 1,a),⟨(by omega : x + 1 ≤ k),(by omega : a.length ≤ x + 1),hno (fun h=>hnG ((hrec.1 h).2.2.2 j hj))⟩,(by omega : k - (x + 1) < k - x),?_⟩
            show ∀ a_1 w,_→Sim _ ⟨[(11,.int .i64 ((x + 1 : Nat) : Int)),(5,.rsl false k 5 (fun i=>partA (Q.getD i noPart))),(4,.ptr 2 []),(0,.ptr 0 [])],(2,.pair (.ptr 0 []) (.pair (.sl 5 [] 1 0 (a.map (·.1)).length) (.pair (.sl 6 [] 1 0 (a.map (·.2)).length) (.pair (.sl 4 [] 1 0 (bads L k).length) (.pair (.int .i64 (nextOf L k)) (.pair (.int .i64 (stopAt L k : Nat)) (.pair (.bool false) .nul)))))))::(4,.arr (bads L k).length 1 (fun i=>.int .i64 ((bads L k).getD i 0)))::(5,liO (a.map (·.1)))::(6,txO (a.map (·.2)))::rD k D left,gR,7⟩ a_1 w
            exact (Sim.less [] (by rfl) R_ R_)
          | true =>
            obtain ⟨hall,htx⟩:=y2 rfl
            by_cases hic : i < c
            · have ei : Q.getD ((x : Int) + (i : Int)).toNat noPart = Q.getD (x + i) noPart:=by rw [show ((x : Int) + (i : Int)).toNat = x + i by omega]
              have hpi:=POk.get hQo (x + i)
              have hpl:=hp.left
              have hpil:=hpi.left
              have hGi:=hGd i
              have hjl : tx.length ≤ 48 * i:=by rw [htx];exact joined_len (fun p hp=>hQo p (List.mem_of_mem_drop hp)) i
              have htl:=hpi.text
              have hcat : tx.length + (Q.getD ((x : Int) + (i : Int)).toNat noPart).text.length ≤ 9223372036854775807:=by rw [ei];omega
              repeat' (first | (refine SS_ ?_) | (refine VC.litT (by rfl) LTR_ ?_) | (refine Seq.litC (by rfl) (by rfl) (fun hb=>?_) (fun hb=>?_) <;> (fail_if_success (with_reducible have:=litT_ hb)) <;> (fail_if_success (with_reducible have:=litF_ hb)) <;> (try simp only [HB_] at hb) <;> (try (exfalso;first | omega | (cases hb;done)))) | fail)
              · have g3 : (Q.getD (x + i) noPart).part = i:=by rw [ei] at hb;omega
                have g1 : (Q.getD (x + i) noPart).ok = true:=by
                  have h : (Q.getD ((x : Int) + (i : Int)).toNat noPart).ok = true:=by assumption
                  rw [ei] at h;exact h
                have g2 : (Q.getD (x + i) noPart).num = (Q.getD x noPart).num:=by
                  have h : (((Q.getD ((x : Int) + (i : Int)).toNat noPart).num : Nat) : Int) = ((Q.getD x noPart).num : Nat):=by assumption
                  rw [ei] at h;omega
                by_cases g4 : (Q.getD (x + i) noPart).left + 48 * i = (Q.getD x noPart).left
                · rw [show decide ((((Q.getD ((x : Int) + (i : Int)).toNat noPart).left : Nat) : Int) = ((Q.getD x noPart).left : Nat) - 48 * (i : Int)) = true from decide_eq_true (by rw [ei];omega)]
                  refine ⟨(i + 1,true,tx ++ (Q.getD (x + i) noPart).text),⟨(by omega : i + 1 ≤ c),(fun _=>⟨fun j hj=>by rcases Nat.lt_or_ge j i with h | h;exact hall j h;exact (show j = i by omega) ▸ hGi.2 ⟨g1,g2,g3,g4⟩,by show _ = joined (Q.drop x) i ++ _;rw [htx,Go.Jn.getD_drop]⟩),fun h=>by cases h⟩,(by omega : c - (i + 1) < c - i),?_⟩
                  show ∀ a_1 w,_→Sim _ ⟨[(16,.int .i64 ((i + 1 : Nat) : Int)),(15,.bool true),(14,.str (tx ++ (Q.getD (x + i) noPart).text)),(13,.int .i64 (c : Nat)),(12,.ptr 7 []),(11,.int .i64 (x : Nat)),(5,.rsl false k 5 (fun i=>partA (Q.getD i noPart))),(4,.ptr 2 []),(0,.ptr 0 [])],(7,partA (Q.getD x noPart))::(2,.pair (.ptr 0 []) (.pair (.sl 5 [] 1 0 (a.map (·.1)).length) (.pair (.sl 6 [] 1 0 (a.map (·.2)).length) (.pair (.sl 4 [] 1 0 (bads L k).length) (.pair (.int .i64 (nextOf L k)) (.pair (.int .i64 (stopAt L k : Nat)) (.pair (.bool false) .nul)))))))::(4,.arr (bads L k).length 1 (fun i=>.int .i64 ((bads L k).getD i 0)))::(5,liO (a.map (·.1)))::(6,txO (a.map (·.2)))::rD k D left,gR,8⟩ a_1 w
                  rw [← ei]
                  exact (Sim.less [] (by rfl) R_ R_)
                · rw [show decide ((((Q.getD ((x : Int) + (i : Int)).toNat noPart).left : Nat) : Int) = ((Q.getD x noPart).left : Nat) - 48 * (i : Int)) = false from decide_eq_false (by rw [ei];omega)]
                  refine ⟨(i + 1,false,tx ++ (Q.getD (x + i) noPart).text),⟨(by omega : i + 1 ≤ c),(fun h=>by cases h),fun _=>⟨i,hic,fun h=>g4 (hGi.1 h).2.2.2⟩⟩,(by omega : c - (i + 1) < c - i),?_⟩
                  show ∀ a_1 w,_→Sim _ ⟨[(16,.int .i64 ((i + 1 : Nat) : Int)),(15,.bool false),(14,.str (tx ++ (Q.getD (x + i) noPart).text)),(13,.int .i64 (c : Nat)),(12,.ptr 7 []),(11,.int .i64 (x : Nat)),(5,.rsl false k 5 (fun i=>partA (Q.getD i noPart))),(4,.ptr 2 []),(0,.ptr 0 [])],(7,partA (Q.getD x noPart))::(2,.pair (.ptr 0 []) (.pair (.sl 5 [] 1 0 (a.map (·.1)).length) (.pair (.sl 6 [] 1 0 (a.map (·.2)).length) (.pair (.sl 4 [] 1 0 (bads L k).length) (.pair (.int .i64 (nextOf L k)) (.pair (.int .i64 (stopAt L k : Nat)) (.pair (.bool false) .nul)))))))::(4,.arr (bads L k).length 1 (fun i=>.int .i64 ((bads L k).getD i 0)))::(5,liO (a.map (·.1)))::(6,txO (a.map (·.2)))::rD k D left,gR,8⟩ a_1 w
                  rw [← ei]
                  exact (Sim.less [] (by rfl) R_ R_)
              · have g3 : ¬ (Q.getD (x + i) noPart).part = i:=by rw [ei] at hb;omega
                refine ⟨(i + 1,false,tx ++ (Q.getD (x + i) noPart).text),⟨(by omega : i + 1 ≤ c),(fun h=>by cases h),fun _=>⟨i,hic,fun h=>g3 (hGi.1 h).2.2.1⟩⟩,(by omega : c - (i + 1) < c - i),?_⟩
                show ∀ a_1 w,_→Sim _ ⟨[(16,.int .i64 ((i + 1 : Nat) : Int)),(15,.bool false),(14,.str (tx ++ (Q.getD (x + i) noPart).text)),(13,.int .i64 (c : Nat)),(12,.ptr 7 []),(11,.int .i64 (x : Nat)),(5,.rsl false k 5 (fun i=>partA (Q.getD i noPart))),(4,.ptr 2 []),(0,.ptr 0 [])],(7,partA (Q.getD x noPart))::(2,.pair (.ptr 0 []) (.pair (.sl 5 [] 1 0 (a.map (·.1)).length) (.pair (.sl 6 [] 1 0 (a.map (·.2)).length) (.pair (.sl 4 [] 1 0 (bads L k).length) (.pair (.int .i64 (nextOf L k)) (.pair (.int .i64 (stopAt L k : Nat)) (.pair (.bool false) .nul)))))))::(4,.arr (bads L k).length 1 (fun i=>.int .i64 ((bads L k).getD i 0)))::(5,liO (a.map (·.1)))::(6,txO (a.map (·.2)))::rD k D left,gR,8⟩ a_1 w
                rw [← ei]
                exact (Sim.less [] (by rfl) R_ R_)
              · have g2 : ¬ (Q.getD (x + i) noPart).num = (Q.getD x noPart).num:=by rw [ei] at hb;omega
                refine ⟨(i + 1,false,tx ++ (Q.getD (x + i) noPart).text),⟨(by omega : i + 1 ≤ c),(fun h=>by cases h),fun _=>⟨i,hic,fun h=>g2 (hGi.1 h).2.1⟩⟩,(by omega : c - (i + 1) < c - i),?_⟩
                show ∀ a_1 w,_→Sim _ ⟨[(16,.int .i64 ((i + 1 : Nat) : Int)),(15,.bool false),(14,.str (tx ++ (Q.getD (x + i) noPart).text)),(13,.int .i64 (c : Nat)),(12,.ptr 7 []),(11,.int .i64 (x : Nat)),(5,.rsl false k 5 (fun i=>partA (Q.getD i noPart))),(4,.ptr 2 []),(0,.ptr 0 [])],(7,partA (Q.getD x noPart))::(2,.pair (.ptr 0 []) (.pair (.sl 5 [] 1 0 (a.map (·.1)).length) (.pair (.sl 6 [] 1 0 (a.map (·.2)).length) (.pair (.sl 4 [] 1 0 (bads L k).length) (.pair (.int .i64 (nextOf L k)) (.pair (.int .i64 (stopAt L k : Nat)) (.pair (.bool false) .nul)))))))::(4,.arr (bads L k).length 1 (fun i=>.int .i64 ((bads L k).getD i 0)))::(5,liO (a.map (·.1)))::(6,txO (a.map (·.2)))::rD k D left,gR,8⟩ a_1 w
                rw [← ei]
                exact (Sim.less [] (by rfl) R_ R_)
              · have g1 : ¬ (Q.getD (x + i) noPart).ok = true:=by rw [← ei];simp_all
                refine ⟨(i + 1,false,tx ++ (Q.getD (x + i) noPart).text),⟨(by omega : i + 1 ≤ c),(fun h=>by cases h),fun _=>⟨i,hic,fun h=>g1 (hGi.1 h).1⟩⟩,(by omega : c - (i + 1) < c - i),?_⟩
                show ∀ a_1 w,_→Sim _ ⟨[(16,.int .i64 ((i + 1 : Nat) : Int)),(15,.bool false),(14,.str (tx ++ (Q.getD (x + i) noPart).text)),(13,.int .i64 (c : Nat)),(12,.ptr 7 []),(11,.int .i64 (x : Nat)),(5,.rsl false k 5 (fun i=>partA (Q.getD i noPart))),(4,.ptr 2 []),(0,.ptr 0 [])],(7,partA (Q.getD x noPart))::(2,.pair (.ptr 0 []) (.pair (.sl 5 [] 1 0 (a.map (·.1)).length) (.pair (.sl 6 [] 1 0 (a.map (·.2)).length) (.pair (.sl 4 [] 1 0 (bads L k).length) (.pair (.int .i64 (nextOf L k)) (.pair (.int .i64 (stopAt L k : Nat)) (.pair (.bool false) .nul)))))))::(4,.arr (bads L k).length 1 (fun i=>.int .i64 ((bads L k).getD i 0)))::(5,liO (a.map (·.1)))::(6,txO (a.map (·.2)))::rD k D left,gR,8⟩ a_1 w
                rw [← ei]
                exact (Sim.less [] (by rfl) R_ R_)
            · obtain rfl : i = c:=by omega
              have hr : IsRec (Q.drop x):=hrec.2 ⟨hok,hpt,by omega,hall⟩
              have hcp : 1 ≤ i:=by rw [← hc];exact cnt_pos (by omega) (by have:=hp.left;omega)
              have hst : scan 0 (Q.drop x) a = scan 0 (Q.drop (x + i)) (more a (Q.getD x noPart).num tx):=by
                rw [htx,scan_rec hr (by rw [headD_eq,h0,hc];exact hcp),headD_eq,h0,hc,List.drop_drop]
                unfold recText
                rw [headD_eq,h0,hc]
              have c2:=rhas_ok (a.map (·.1)) (by omega) ((Q.getD x noPart).num : Nat)
              by_cases hm : ((Q.getD x noPart).num : Int) ∈ a.map (·.1)
              · rw [decide_eq_true hm] at c2
                repeat' (first | (refine SS_ ?_) | (refine VC.drawm (id:=32) [(0,0),(1,1),(2,3),(3,7),(4,0),(5,16),(6,63)] [7] (by rfl) (by kernel_rfl) (by rfl) ?_) | (refine DSeq.callp true (c2) Tryz.func56 gR_ok subG.nil (by rfl) (fastE (by rfl)) (fastH (by rfl)) (by rfl) (by rfl) rfl rfl rfl rfl rfl (by rfl) (by rfl) (by exact View.pair (view_li (by rfl) ⟨rfl,rfl⟩ rfl) VW_) NI_ NI_ FR_ ?_) | (refine VC.litF (by rfl) LFA_ ?_) | (refine DD_ ?_) | fail)
                have hmo : more a (Q.getD x noPart).num tx = a:=by unfold more hasN;rw [if_pos (List.contains_iff_mem.2 hm)]
                rw [hmo] at hst
                refine ⟨(x + i,a),⟨(by omega : x + i ≤ k),(by omega : a.length ≤ x + i),by rw [← hst];exact hx3⟩,(by omega : k - (x + i) < k - x),?_⟩
                show ∀ a_1 w,_→Sim _ ⟨[(11,.int .i64 ((x + i : Nat) : Int)),(5,.rsl false k 5 (fun i=>partA (Q.getD i noPart))),(4,.ptr 2 []),(0,.ptr 0 [])],(2,.pair (.ptr 0 []) (.pair (.sl 5 [] 1 0 (a.map (·.1)).length) (.pair (.sl 6 [] 1 0 (a.map (·.2)).length) (.pair (.sl 4 [] 1 0 (bads L k).length) (.pair (.int .i64 (nextOf L k)) (.pair (.int .i64 (stopAt L k : Nat)) (.pair (.bool false) .nul)))))))::(4,.arr (bads L k).length 1 (fun i=>.int .i64 ((bads L k).getD i 0)))::(5,liO (a.map (·.1)))::(6,txO (a.map (·.2)))::rD k D left,gR,7⟩ a_1 w
                exact (Sim.less [] (by rfl) R_ R_)
              · rw [decide_eq_false hm] at c2
                repeat' (first | (refine SS_ ?_) | (refine VC.drawm (id:=32) [(0,0),(1,1),(2,3),(3,7),(4,0),(5,16),(6,63)] [7] (by rfl) (by kernel_rfl) (by rfl) ?_) | (refine DSeq.callp true (c2) Tryz.func56 gR_ok subG.nil (by rfl) (fastE (by rfl)) (fastH (by rfl)) (by rfl) (by rfl) rfl rfl rfl rfl rfl (by rfl) (by rfl) (by exact View.pair (view_li (by rfl) ⟨rfl,rfl⟩ rfl) VW_) NI_ NI_ FR_ ?_) | (refine VC.drawM2 (id:=34) [(0,0),(1,0),(2,2),(3,6),(4,14),(5,0),(6,32),(7,96),(8,254),(9,511),(10,1023)] [] [11] [5] [] (by rfl) (by kernel_rfl) (by rfl) (by rfl) (by rfl) (by rfl) (by rfl) (by rfl) ?_) | (refine DSeq.eata true tt_ok (by rfl) (fastE (by rfl)) (fastH (by rfl)) (fastH (by rfl)) (by rfl) (by (first | exact trivial | exact u8_in _ rfl | exact u32_in _ rfl | ((with_reducible refine AllP.guard ?_);simp only [AllP,inI,fitV,maxK,inK,inbL,inb,List.append,List.cons_append,List.nil_append,true_and,and_true];first | done | omega))) (by rfl) rfl (by rfl) ?_) | (refine DSeq.nil ⟨rfl,by rfl,?_⟩) | (refine DSeq.nil ⟨rfl,?_⟩) | (refine VC.litT (by rfl) LTR_ ?_) | (refine VC.litF (by rfl) LFA_ ?_) | (refine DD_ ?_) | fail)
                have hmo : more a (Q.getD x noPart).num tx = a ++ [(((Q.getD x noPart).num : Int),tx)]:=by unfold more hasN;rw [if_neg (fun h=>hm (List.contains_iff_mem.1 h))]
                rw [hmo] at hst
                have hA1 : (a ++ [(((Q.getD x noPart).num : Int),tx)]).map (·.1) = a.map (·.1) ++ [((Q.getD x noPart).num : Int)]:=by rw [List.map_append];rfl
                have hA2 : (a ++ [(((Q.getD x noPart).num : Int),tx)]).map (·.2) = a.map (·.2) ++ [tx]:=by rw [List.map_append];rfl
                refine ⟨(x + i,a ++ [(((Q.getD x noPart).num : Int),tx)]),⟨(by omega : x + i ≤ k),(by rw [List.length_append,List.length_singleton];omega : (a ++ [(((Q.getD x noPart).num : Int),tx)]).length ≤ x + i),by rw [← hst];exact hx3⟩,(by omega : k - (x + i) < k - x),?_⟩
                show ∀ a_1 w,_→Sim _ ⟨[(11,.int .i64 ((x + i : Nat) : Int)),(5,.rsl false k 5 (fun i=>partA (Q.getD i noPart))),(4,.ptr 2 []),(0,.ptr 0 [])],(2,.pair (.ptr 0 []) (.pair (.sl 5 [] 1 0 ((a ++ [(((Q.getD x noPart).num : Int),tx)]).map (·.1)).length) (.pair (.sl 6 [] 1 0 ((a ++ [(((Q.getD x noPart).num : Int),tx)]).map (·.2)).length) (.pair (.sl 4 [] 1 0 (bads L k).length) (.pair (.int .i64 (nextOf L k)) (.pair (.int .i64 (stopAt L k : Nat)) (.pair (.bool false) .nul)))))))::(4,.arr (bads L k).length 1 (fun i=>.int .i64 ((bads L k).getD i 0)))::(5,liO ((a ++ [(((Q.getD x noPart).num : Int),tx)]).map (·.1)))::(6,txO ((a ++ [(((Q.getD x noPart).num : Int),tx)]).map (·.2)))::rD k D left,gR,7⟩ a_1 w
                rw [hA1,hA2]
                unfold liO txO
                rw [List.length_append,List.length_append,List.length_singleton,List.length_singleton]
                (refine Sim.less [(5,9),(6,11)] (by rfl) ?_ ?_ <;> (repeat' (first | (exact EnvLe.nil) | (exact HeapLe.nil) | (with_reducible apply EnvLe.cons) | (with_reducible apply HeapLe.cons) | ((with_reducible refine RelA.int ?_;first | (refine Keep.mk ?_;first | with_reducible rfl | omega | decide) | skip)) | (exact rfl) | (exact ⟨rfl,rfl⟩) | ((with_reducible refine RelA.rsl ?_;intro i hi)) | ((with_reducible refine RelA.arr ?_;intro i hi)) | (with_reducible refine RelA.pair ?_ ?_) | ((refine RelA.arr ?_;intro i hi)) | fail)) <;> (try with_reducible refine Keep.mk ?_))
                · exact rel_snocG (G:=AV.int .i64) (fun e=>NI_) (by assumption)
                · exact rel_snocG (G:=AV.str) (fun e=>NI_) (by assumption)
        · rw [show decide ((x : Int) + (c : Int) ≤ (k : Int)) = false from decide_eq_false (by omega)]
          refine VC.loop (fun _ : Nat=>⟨[(16,.int .i64 ((0 : Nat) : Nat)),(15,.bool false),(14,.str []),(13,.int .i64 (c : Nat)),(12,.ptr 7 []),(11,.int .i64 (x : Nat)),(5,.rsl false k 5 (fun i=>partA (Q.getD i noPart))),(4,.ptr 2 []),(0,.ptr 0 [])],(7,partA (Q.getD x noPart))::(2,.pair (.ptr 0 []) (.pair (.sl 5 [] 1 0 (a.map (·.1)).length) (.pair (.sl 6 [] 1 0 (a.map (·.2)).length) (.pair (.sl 4 [] 1 0 (bads L k).length) (.pair (.int .i64 (nextOf L k)) (.pair (.int .i64 (stopAt L k : Nat)) (.pair (.bool false) .nul)))))))::(4,.arr (bads L k).length 1 (fun i=>.int .i64 ((bads L k).getD i 0)))::(5,liO (a.map (·.1)))::(6,txO (a.map (·.2)))::rD k D left,gR,8⟩) (fun _=>True) (fun _=>0) 0 trivial (by
            rw [ex]
            exact (Sim.less [] (by rfl) R_ R_)) fun _ _=>?_
          repeat' (first | (refine SS_ ?_) | (refine VC.litT (by rfl) LTR_ ?_) | (refine VC.litF (by rfl) LFA_ ?_) | fail)
          refine ⟨(x + 1,a),⟨(by omega : x + 1 ≤ k),(by omega : a.length ≤ x + 1),hno (fun h=>by have:=(hrec.1 h).2.2.1;omega)⟩,(by omega : k - (x + 1) < k - x),?_⟩
          show ∀ a_1 w,_→Sim _ ⟨[(11,.int .i64 ((x + 1 : Nat) : Int)),(5,.rsl false k 5 (fun i=>partA (Q.getD i noPart))),(4,.ptr 2 []),(0,.ptr 0 [])],(2,.pair (.ptr 0 []) (.pair (.sl 5 [] 1 0 (a.map (·.1)).length) (.pair (.sl 6 [] 1 0 (a.map (·.2)).length) (.pair (.sl 4 [] 1 0 (bads L k).length) (.pair (.int .i64 (nextOf L k)) (.pair (.int .i64 (stopAt L k : Nat)) (.pair (.bool false) .nul)))))))::(4,.arr (bads L k).length 1 (fun i=>.int .i64 ((bads L k).getD i 0)))::(5,liO (a.map (·.1)))::(6,txO (a.map (·.2)))::rD k D left,gR,7⟩ a_1 w
          exact (Sim.less [] (by rfl) R_ R_)
      · have hpt : (Q.getD x noPart).part ≠ 0:=by rw [ex] at hb;omega
        refine VC.loop (fun _ : Nat=>⟨[(16,.int .i64 ((0 : Nat) : Nat)),(15,.bool false),(14,.str []),(13,.int .i64 (c : Nat)),(12,.ptr 7 []),(11,.int .i64 (x : Nat)),(5,.rsl false k 5 (fun i=>partA (Q.getD i noPart))),(4,.ptr 2 []),(0,.ptr 0 [])],(7,partA (Q.getD x noPart))::(2,.pair (.ptr 0 []) (.pair (.sl 5 [] 1 0 (a.map (·.1)).length) (.pair (.sl 6 [] 1 0 (a.map (·.2)).length) (.pair (.sl 4 [] 1 0 (bads L k).length) (.pair (.int .i64 (nextOf L k)) (.pair (.int .i64 (stopAt L k : Nat)) (.pair (.bool false) .nul)))))))::(4,.arr (bads L k).length 1 (fun i=>.int .i64 ((bads L k).getD i 0)))::(5,liO (a.map (·.1)))::(6,txO (a.map (·.2)))::rD k D left,gR,8⟩) (fun _=>True) (fun _=>0) 0 trivial (by
          rw [ex]
          exact (Sim.less [] (by rfl) R_ R_)) fun _ _=>?_
        repeat' (first | (refine SS_ ?_) | (refine VC.litT (by rfl) LTR_ ?_) | (refine VC.litF (by rfl) LFA_ ?_) | fail)
        refine ⟨(x + 1,a),⟨(by omega : x + 1 ≤ k),(by omega : a.length ≤ x + 1),hno (fun h=>hpt (hrec.1 h).2.1)⟩,(by omega : k - (x + 1) < k - x),?_⟩
        show ∀ a_1 w,_→Sim _ ⟨[(11,.int .i64 ((x + 1 : Nat) : Int)),(5,.rsl false k 5 (fun i=>partA (Q.getD i noPart))),(4,.ptr 2 []),(0,.ptr 0 [])],(2,.pair (.ptr 0 []) (.pair (.sl 5 [] 1 0 (a.map (·.1)).length) (.pair (.sl 6 [] 1 0 (a.map (·.2)).length) (.pair (.sl 4 [] 1 0 (bads L k).length) (.pair (.int .i64 (nextOf L k)) (.pair (.int .i64 (stopAt L k : Nat)) (.pair (.bool false) .nul)))))))::(4,.arr (bads L k).length 1 (fun i=>.int .i64 ((bads L k).getD i 0)))::(5,liO (a.map (·.1)))::(6,txO (a.map (·.2)))::rD k D left,gR,7⟩ a_1 w
        exact (Sim.less [] (by rfl) R_ R_)
      · have hok : ¬ (Q.getD x noPart).ok = true:=by rw [← ex];simp_all
        refine VC.loop (fun _ : Nat=>⟨[(16,.int .i64 ((0 : Nat) : Nat)),(15,.bool false),(14,.str []),(13,.int .i64 (c : Nat)),(12,.ptr 7 []),(11,.int .i64 (x : Nat)),(5,.rsl false k 5 (fun i=>partA (Q.getD i noPart))),(4,.ptr 2 []),(0,.ptr 0 [])],(7,partA (Q.getD x noPart))::(2,.pair (.ptr 0 []) (.pair (.sl 5 [] 1 0 (a.map (·.1)).length) (.pair (.sl 6 [] 1 0 (a.map (·.2)).length) (.pair (.sl 4 [] 1 0 (bads L k).length) (.pair (.int .i64 (nextOf L k)) (.pair (.int .i64 (stopAt L k : Nat)) (.pair (.bool false) .nul)))))))::(4,.arr (bads L k).length 1 (fun i=>.int .i64 ((bads L k).getD i 0)))::(5,liO (a.map (·.1)))::(6,txO (a.map (·.2)))::rD k D left,gR,8⟩) (fun _=>True) (fun _=>0) 0 trivial (by
          rw [ex]
          exact (Sim.less [] (by rfl) R_ R_)) fun _ _=>?_
        repeat' (first | (refine SS_ ?_) | (refine VC.litT (by rfl) LTR_ ?_) | (refine VC.litF (by rfl) LFA_ ?_) | fail)
        refine ⟨(x + 1,a),⟨(by omega : x + 1 ≤ k),(by omega : a.length ≤ x + 1),hno (fun h=>hok (hrec.1 h).1)⟩,(by omega : k - (x + 1) < k - x),?_⟩
        show ∀ a_1 w,_→Sim _ ⟨[(11,.int .i64 ((x + 1 : Nat) : Int)),(5,.rsl false k 5 (fun i=>partA (Q.getD i noPart))),(4,.ptr 2 []),(0,.ptr 0 [])],(2,.pair (.ptr 0 []) (.pair (.sl 5 [] 1 0 (a.map (·.1)).length) (.pair (.sl 6 [] 1 0 (a.map (·.2)).length) (.pair (.sl 4 [] 1 0 (bads L k).length) (.pair (.int .i64 (nextOf L k)) (.pair (.int .i64 (stopAt L k : Nat)) (.pair (.bool false) .nul)))))))::(4,.arr (bads L k).length 1 (fun i=>.int .i64 ((bads L k).getD i 0)))::(5,liO (a.map (·.1)))::(6,txO (a.map (·.2)))::rD k D left,gR,7⟩ a_1 w
        exact (Sim.less [] (by rfl) R_ R_)
    · obtain rfl : x = k:=by omega
      have hRa : a = R:=by rw [← hx3,List.drop_of_length_le (by omega),scan_nil]
      subst hRa
      repeat' (first | (refine SS_ ?_) | (refine VC.litF (by rfl) LFA_ ?_) | fail)
      refine retC_conv' (s':=⟨[(2,.ptr 2 []),(3,.int .i64 0)],(2,rjA 3 4 5 (a.map (·.1)) (bads L x) (a.map (·.2)) (nextOf L x) (stopAt L x) false)::(3,liO (a.map (·.1)))::(4,liO (bads L x))::(5,txO (a.map (·.2)))::rD x D left,gR,7⟩) (Sim.less [(3,5),(5,6)] (by rfl) R_ R_) ?_
      (refine retC_mk ([(2,.ptr 2 []),(3,.int .i64 0)]) ((2,rjA 3 4 5 (a.map (·.1)) (bads L x) (a.map (·.2)) (nextOf L x) (stopAt L x) false)::(3,liO (a.map (·.1)))::(4,liO (bads L x))::(5,txO (a.map (·.2)))::rD x D left) 7 (Sim.less [] (by rfl) R_ R_) (retQ_ok (by rfl) ((2,rjA 3 4 5 (a.map (·.1)) (bads L x) (a.map (·.2)) (nextOf L x) (stopAt L x) false)::(3,liO (a.map (·.1)))::(4,liO (bads L x))::(5,txO (a.map (·.2)))::rD x D left) (fun i av h=>h) ⟨?_,?_⟩)) <;> rfl
end Go.Proofs.YtmbldnahcmkpgaaGreatDoor
