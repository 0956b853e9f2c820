/- The reference's journals: Damaged, Room, Append. -/
import Derived.Test.YtmbldnahcmkpgaaGreatDoorBh
import Derived.Test.YtmbldnahcmkpgaaGreatDoorBx
import Derived.Test.YtmbldnahcmkpgaaGreatDoorAm
import Derived.Test.YtmbldnahcmkpgaaGreatDoorAr
set_option linter.unusedSimpArgs false
set_option linter.unusedVariables false
namespace Go.Proofs.YtmbldnahcmkpgaaGreatDoor
open Go.V Go.RowKit Go.L Go.Lx Go.Jn Go.Dk
set_option maxRecDepth 10000
set_option maxHeartbeats 4000000
abbrev rDD (n : Nat) (D : Disk) : Asc:=rD n D (max (-1) D.left)
abbrev rjL (a c n : Nat) (D : Disk) (N B : List Int) (T : List Bs) (next : Int) (stop : Nat) (shut : Bool) : Asc:=(2,rjA a 4 c N B T next stop shut)::(a,liO N)::(4,liO B)::(c,txO T)::rDD n D
abbrev rjHn (n : Nat) (D : Disk) (J : Jr) : Asc:=rjL 6 7 n D (nums J) J.bad (texts J) J.next J.stop J.shut
section
variable {n : Nat} {D : Disk} {J : Jr} {left : Int}
theorem rdamaged_ok (hl : (nums J).length ≤ 1048576) (hx1 : 1 ≤ J.next) (hx2 : J.next ≤ 4097) : Ok Tryz.prog 57 [] (rjH n D left J) (.pair (.ptr 2 []) .nul) (fun r h'=>r = .sl 6 [] 1 0 (damaged J).length∧h' = (6,liO (damaged J))::rjH n D left J):=by
  rw [damaged_eq]
  refine Ok.of_vcC tt_ok Tryz.func57 rfl rfl (by show 1 ≤ _;decide) 6 (hlt_ok (by rfl)) fun c0=>?_
  repeat' (first | (refine SS_ ?_) | fail)
  refine VC.conv (Sim.ghost 3 1 (fun _=>.nul) (by rfl) (.inl rfl)) ?_
  refine VC.loop (fun k : Nat=>⟨[(4,.int .i64 ((k + 1 : Nat) : Int)),(3,.sl 6 [] 1 0 (dmgK (nums J) k).length),(0,.ptr 2 [])],(6,liO (dmgK (nums J) k))::rjH n D left J,[],7⟩) (fun k=>k ≤ (J.next - 1).toNat) (fun k=>(J.next - 1).toNat - k) 0 (by omega) (by
    (refine Sim.less [] (by rfl) ?_ ?_ <;> (repeat' (first | (exact EnvLe.nil) | (exact HeapLe.nil) | (with_reducible apply EnvLe.cons) | (with_reducible apply HeapLe.cons) | ((with_reducible refine RelA.int ?_;first | (refine Keep.mk ?_;first | with_reducible rfl | omega | decide) | skip)) | (exact rfl) | (exact ⟨rfl,rfl⟩) | ((with_reducible refine RelA.arr ?_;intro i hi)) | (with_reducible refine RelA.pair ?_ ?_) | ((refine RelA.arr ?_;intro i hi)) | fail)) <;> (try with_reducible refine Keep.mk ?_))
    exact absurd (by assumption) (Nat.not_lt_zero _)) fun k hk=>?_
  by_cases hkn : k < (J.next - 1).toNat
  · have hs:=dmgK_succ (nums J) k
    have hdl:=dmgK_len (nums J) k
    have c2:=rhas_ok (nums J) (by omega) ((k + 1 : Nat) : Int)
    by_cases hc : ((k + 1 : Nat) : Int) ∈ nums J
    · rw [decide_eq_true hc] at c2
      rw [if_pos (List.contains_iff_mem.2 (by simpa using hc))] at hs
      repeat' (first | (refine SS_ ?_) | (refine Seq.callp true (c2) Tryz.func56 GOk.nil subG.nil (by rfl) (by rfl) rfl rfl rfl rfl rfl (by rfl) rfl (by exact View.pair (view_li (by rfl) ⟨rfl,rfl⟩ rfl) VW_) NI_ NI_ FR_ ?_) | (refine VC.litT (by rfl) LTR_ ?_) | (refine VC.litF (by rfl) LFA_ ?_) | fail)
      refine ⟨k + 1,by omega,by omega,?_⟩
      rw [hs]
      exact (Sim.less [] (by rfl) R_ R_)
    · rw [decide_eq_false hc] at c2
      rw [if_neg (fun h=>hc (by simpa using List.contains_iff_mem.1 h))] at hs
      repeat' (first | (refine SS_ ?_) | (refine Seq.callp true (c2) Tryz.func56 GOk.nil subG.nil (by rfl) (by rfl) rfl rfl rfl rfl rfl (by rfl) rfl (by exact View.pair (view_li (by rfl) ⟨rfl,rfl⟩ rfl) VW_) NI_ NI_ FR_ ?_) | (refine VC.litT (by rfl) LTR_ ?_) | fail)
      refine ⟨k + 1,by omega,by omega,?_⟩
      unfold liO
      rw [hs,List.length_append,List.length_singleton]
      (refine Sim.less [(6,8)] (by rfl) ?_ ?_ <;> (repeat' (first | (exact EnvLe.nil) | (exact HeapLe.nil) | (with_reducible apply EnvLe.cons) | (with_reducible apply HeapLe.cons) | ((with_reducible refine RelA.int ?_;first | (refine Keep.mk ?_;first | with_reducible rfl | omega | decide) | skip)) | (exact rfl) | (exact ⟨rfl,rfl⟩) | ((with_reducible refine RelA.arr ?_;intro i hi)) | (with_reducible refine RelA.pair ?_ ?_) | ((refine RelA.arr ?_;intro i hi)) | fail)) <;> (try with_reducible refine Keep.mk ?_))
      exact rel_snocG (G:=AV.int .i64) (fun e=>NI_) (by assumption)
  · obtain rfl : k = (J.next - 1).toNat:=by omega
    repeat' (first | (refine SS_ ?_) | (refine VC.litF (by rfl) LFA_ ?_) | fail)
    (refine retC_mk ([(2,.sl 6 [] 1 0 (dmgK (nums J) (J.next - 1).toNat).length)]) ((6,liO (dmgK (nums J) (J.next - 1).toNat))::rjH n D left J) 10 (Sim.less [] (by rfl) R_ R_) (retQ_ok (by rfl) ((6,liO (dmgK (nums J) (J.next - 1).toNat))::rjH n D left J) (fun i av h=>h) ⟨?_,?_⟩)) <;> rfl
theorem rroom_ok {N B : List Int} {T : List Bs} {next : Int} {stop : Nat} {shut : Bool} (hs : stop ≤ n) (hn : n ≤ 4096) : Ok Tryz.prog 58 [] (rjL 3 5 n D N B T next stop shut) (.pair (.ptr 2 []) .nul) (fun r h'=>r = .int .i64 ((n : Int) - stop)∧h' = rjL 3 5 n D N B T next stop shut):=by
  have cl:=rlen_ok (n:=n) (S:=secs n D.B D.P D.W) (off:=D.off) (left:=max (-1) D.left)
  refine Ok.of_vcC tt_ok Tryz.func58 rfl rfl (by show 1 ≤ _;decide) 6 (hlt_ok (by rfl)) fun c0=>?_
  repeat' (first | (refine SS_ ?_) | (refine VC.drawm (id:=1) [(0,0),(1,1),(2,3),(3,7),(4,15),(5,0),(6,32),(7,96),(8,224),(9,511)] [10] (by rfl) (by kernel_rfl) (by rfl) ?_) | (refine DSeq.callr false [] [] (.int .i64 n) ([]) (rDD n D) 6 (cl) Tryz.func51 GOk.nil subG.nil (by rfl) (fastE (by rfl)) (fastH (by rfl)) (by rfl) (by rfl) rfl rfl rfl rfl rfl (by rfl) (by rfl) (by rfl) (by rfl) (by rfl) (by repeat (first | exact trivial | refine ⟨rfl,?_⟩)) (by rfl) (by rfl) (by rfl) VW_ NI_ R_ (noFrL_ok NI_) BK_ ?_) | (refine DD_ ?_) | fail)
  (refine retC_mk ([(2,.int .i64 ((n : Int) - stop))]) (rjL 3 5 n D N B T next stop shut) 6 (Sim.less [] (by rfl) R_ R_) (retQ_ok (by rfl) (rjL 3 5 n D N B T next stop shut) (fun i av h=>h) ⟨?_,?_⟩)) <;> rfl
end
theorem rcw_ok {n : Nat} {D : Disk} (hG : GoodD n D) (i : Int) (s : Bs) (hs : s.length = 64) : Ok Tryz.prog 10 [] (rDD n D) (.pair (.ptr 0 []) (.pair (.int .i64 i) (.pair (.str s) .nul))) (fun r h'=>r = .int .i64 (wr1E n D i s)∧h' = rDD n (wr1 n D i s)):=by
  obtain ⟨B,P,W,off,left⟩:=D
  have h : Good n B P W left:=hG
  obtain ⟨e1,e2,e3⟩:=stp_left left
  have hw : wrE n off (max (-1) left) i s = wrE n off left i s:=by unfold wrE;rw [e1]
  have c:=rwrite_ok (n:=n) (S:=secs n B P W) (off:=off) (left:=max (-1) left) secs_len (max_64 h.l64) i s
  rw [hw,e2,e3] at c
  have hsS : (if wrE n off left i s = 0 then wrS (secs n B P W) i s else secs n B P W) = secs n B (if wrE n off left i s = 0 then mSet P i s else P) W:=by
    by_cases he : wrE n off left i s = 0
    · rw [if_pos he,if_pos he]
      have hc : chk n off i = 0:=by
        unfold wrE at he
        by_cases hc : chk n off i = 0
        · exact hc
        · rw [if_pos hc] at he;exact absurd he hc
      obtain ⟨_,hb⟩:=chk_zero hc
      exact write_secs hb.1 hb.2 _
    · rw [if_neg he,if_neg he]
  have hl : (if wrGo n off i s = true then max (-1) (stpL left) else max (-1) left) = max (-1) (if wrGo n off i s = true then stpL left else left):=by
    split <;> rfl
  rw [hsS,hl] at c
  unfold wr1 wr1E doD doE opW
  rw [if_pos rfl,if_pos rfl,textS_64 hs]
  exact c
theorem rcf_ok {n : Nat} {D : Disk} (hG : GoodD n D) : Ok Tryz.prog 64 [] (rDD n D) (.pair (.ptr 0 []) .nul) (fun r h'=>r = .int .i64 (doE n D opF)∧h' = rDD n (doD n D opF)):=by
  obtain ⟨B,P,W,off,left⟩:=D
  have h : Good n B P W left:=hG
  obtain ⟨e1,e2,e3⟩:=stp_left left
  rw [doD_F,doE_F]
  cases off with
  | true=>exact rflush_off (n:=n) (S:=secs n B P W) (left:=max (-1) left) rfl
  | false =>
    by_cases hl : left = 0
    · have c:=rflush_trip (n:=n) (S:=secs n B P W) (off:=false) (left:=max (-1) left) rfl (by omega)
      rw [if_neg (show ¬ false = true by decide),if_neg (show ¬ false = true by decide),if_pos hl,if_pos hl]
      exact c
    · have c:=rflush_go (off:=false) (rgood_secs h) h.n1 (max_64 h.l64) rfl (by omega)
      rw [mount_secs h,e2] at c
      rw [if_neg (show ¬ false = true by decide),if_neg (show ¬ false = true by decide),if_neg hl,if_neg hl]
      exact c
theorem rpack_ok (n : Nat) (t : Bs) (h0 : 1 ≤ n) (h1 : n ≤ 4096) (ht : t.length ≤ 8000) : Ok Tryz.prog 63 gR [] (.pair (.int .i64 (n : Nat)) (.pair (.str t) .nul)) (fun r h'=>r = .tup (.pair (txT (parts n t)) (.pair (.int .i64 0) .nul))∧h' = []):=by
  refine Ok.still (rpack_own n t h0 h1 ht) ?_
  rintro r h' ⟨rfl,rfl⟩
  refine ⟨_,ViewT.tup (ViewT.pair (ViewT.sl (by rfl) rfl trivial (by omega) rfl fun i hi=>.rel (by rw [Nat.zero_add];exact NoId.self NI_)) (.rel (NoId.self NI_))),rfl,rfl⟩
section
variable {n : Nat} {D : Disk} {N B : List Int} {T : List Bs} {stop : Nat}
theorem rapp_shut (next : Int) (t : Bs) : Ok Tryz.prog 25 gR (rjL 3 5 n D N B T next stop true) (.pair (.ptr 2 []) (.pair (.str t) .nul))
    (fun r h'=>r = .tup (.pair (.int .i64 0) (.pair (.int .i64 20) .nul))∧h' = rjL 6 7 n D N B T next stop true):=by
  refine Ok.of_vcC tt_ok Tryz.func25 rfl rfl (by show 2 ≤ _;decide) 6 (hlt_ok (by rfl)) fun c0=>?_
  repeat' (first | (refine SS_ ?_) | (refine VC.litT (by rfl) LTR_ ?_) | fail)
  refine retC_conv' (s':=⟨[(4,.int .i64 0),(5,.int .i64 20)],rjL 6 7 n D N B T next stop true,gR,8⟩) (Sim.less [(6,3),(7,5)] (by rfl) R_ R_) ?_
  (refine retC_mk ([(4,.int .i64 0),(5,.int .i64 20)]) (rjL 6 7 n D N B T next stop true) 8 (Sim.less [] (by rfl) R_ R_) (retQ_ok (by rfl) (rjL 6 7 n D N B T next stop true) (fun i av h=>h) ⟨?_,?_⟩)) <;> rfl
theorem rapp_limit (next : Int) (t : Bs) (ht : t.length ≤ 9223372036854775807) (h : 8000 < t.length ∨ 4096 < next) : Ok Tryz.prog 25 gR (rjL 3 5 n D N B T next stop false) (.pair (.ptr 2 []) (.pair (.str t) .nul))
    (fun r h'=>r = .tup (.pair (.int .i64 0) (.pair (.int .i64 4) .nul))∧h' = rjL 6 7 n D N B T next stop false):=by
  refine Ok.of_vcC tt_ok Tryz.func25 rfl rfl (by show 2 ≤ _;decide) 6 (hlt_ok (by rfl)) fun c0=>?_
  repeat' (first | (refine SS_ ?_) | (refine VC.litT (by rfl) LTR_ ?_) | (refine VC.litF (by rfl) LFA_ ?_) | (refine Seq.litC (by rfl) (by rfl) (fun hb=>?_) (fun hb=>?_) <;> (fail_if_success (with_reducible have:=litT_ hb)) <;> (fail_if_success (with_reducible have:=litF_ hb)) <;> (try simp only [HB_] at hb) <;> (try (exfalso;first | omega | (cases hb;done)))) | fail)
  all_goals
    refine retC_conv' (s':=⟨[(4,.int .i64 0),(5,.int .i64 4)],rjL 6 7 n D N B T next stop false,gR,8⟩) (Sim.less [(6,3),(7,5)] (by rfl) R_ R_) ?_
    (refine retC_mk ([(4,.int .i64 0),(5,.int .i64 4)]) (rjL 6 7 n D N B T next stop false) 8 (Sim.less [] (by rfl) R_ R_) (retQ_ok (by rfl) (rjL 6 7 n D N B T next stop false) (fun i av h=>h) ⟨?_,?_⟩)) <;> rfl
theorem rapp_full (next : Int) (t : Bs) (hn : n ≤ 4096) (hs : stop ≤ n) (ht : t.length ≤ 8000) (hx : next ≤ 4096) (h : (n : Int) - stop < cnt t.length) : Ok Tryz.prog 25 gR (rjL 3 5 n D N B T next stop false) (.pair (.ptr 2 []) (.pair (.str t) .nul))
    (fun r h'=>r = .tup (.pair (.int .i64 0) (.pair (.int .i64 19) .nul))∧h' = rjL 6 7 n D N B T next stop false):=by
  have cc:=rcount_ok (t.length : Nat) ⟨by omega,by omega⟩
  have cr:=rroom_ok (n:=n) (D:=D) (N:=N) (B:=B) (T:=T) (next:=next) (stop:=stop) (shut:=false) hs hn
  refine Ok.of_vcC tt_ok Tryz.func25 rfl rfl (by show 2 ≤ _;decide) 6 (hlt_ok (by rfl)) fun c0=>?_
  repeat' (first | (refine SS_ ?_) | (refine Seq.callp false (cc) Tryz.func55 gR_ok subG.nil (by rfl) (by rfl) rfl rfl rfl rfl rfl (by rfl) rfl VW_ NI_ NI_ FR_ ?_) | (refine Seq.callo false [] [] (.int .i64 ((n : Int) - stop)) (rjL 3 5 n D N B T next stop false) 6 (cr) Tryz.func58 gR_ok subG.nil (by rfl) (by rfl) rfl rfl rfl rfl rfl (by rfl) rfl (by rfl) (by rfl) (by rfl) (by rfl) VW_ NI_ R_ (noFrL_ok NI_) BK_ ?_) | (refine Seq.lit (by rfl) (by rfl) LT2_ ?_) | (refine VC.litT (by rfl) LTR_ ?_) | (refine VC.litF (by rfl) LFA_ ?_) | fail)
  refine retC_conv' (s':=⟨[(4,.int .i64 0),(5,.int .i64 19)],rjL 6 7 n D N B T next stop false,gR,8⟩) (Sim.less [(6,3),(7,5)] (by rfl) R_ R_) ?_
  (refine retC_mk ([(4,.int .i64 0),(5,.int .i64 19)]) (rjL 6 7 n D N B T next stop false) 8 (Sim.less [] (by rfl) R_ R_) (retQ_ok (by rfl) (rjL 6 7 n D N B T next stop false) (fun i av h=>h) ⟨?_,?_⟩)) <;> rfl
theorem rapp_go (hG : GoodD n D) (m : Nat) (t : Bs) (hm1 : 1 ≤ m) (hm2 : m ≤ 4096) (hs : stop + cnt t.length ≤ n) (ht : t.length ≤ 8000) (hNl : N.length ≤ 1048576) (hTl : T.length ≤ 1048576) {D' : Disk} {e : Int} {b : Bool} (hw : wfr n D stop (parts m t) = (D',(e,b))) (hb0 : e ≠ 0→b = false) : Ok Tryz.prog 25 gR (rjL 3 5 n D N B T (m : Nat) stop false) (.pair (.ptr 2 []) (.pair (.str t) .nul))
    (fun r h'=>r = .tup (.pair (.int .i64 (if b = true then (m : Int) else 0)) (.pair (.int .i64 (if e ≠ 0 then e else if b = true then 0 else 21)) .nul))∧h' = rjL 6 7 n D' (if b = true then N ++ [(m : Int)] else N) B (if b = true then T ++ [t] else T) ((m : Int) + 1) (stop + cnt t.length) (decide (e ≠ 0))):=by
  have hn:=hG.n1
  have hpl:=parts_len m t
  have cc:=rcount_ok (t.length : Nat) ⟨by omega,by omega⟩
  have cr:=rroom_ok (n:=n) (D:=D) (N:=N) (B:=B) (T:=T) (next:=(m : Nat)) (stop:=stop) (shut:=false) (by omega) hn
  have cp:=rpack_ok m t hm1 hm2 ht
  have hl64:=parts_64 (n:=m) (t:=t)
  generalize parts m t = l at *
  have hst : ((stop + cnt t.length : Nat) : Int) = (stop : Int) + ((l.length : Nat) : Int):=by omega
  have gK:=good_wrK hG (a:=stop) (l:=l) (by omega) hl64
  have hls:=fun k (h : k < l.length)=>hl64 _ (Go.Lx.getD_mem (d:=[]) h)
  unfold wfr at hw
  refine Ok.of_vcC tt_ok Tryz.func25 rfl rfl (by show 2 ≤ _;decide) 6 (hlt_ok (by rfl)) fun c0=>?_
  repeat' (first | (refine SS_ ?_) | (refine Seq.callp false (cc) Tryz.func55 gR_ok subG.nil (by rfl) (by rfl) rfl rfl rfl rfl rfl (by rfl) rfl VW_ NI_ NI_ FR_ ?_) | (refine Seq.callo false [] [] (.int .i64 ((n : Int) - stop)) (rjL 3 5 n D N B T (m : Nat) stop false) 6 (cr) Tryz.func58 gR_ok subG.nil (by rfl) (by rfl) rfl rfl rfl rfl rfl (by rfl) rfl (by rfl) (by rfl) (by rfl) (by rfl) VW_ NI_ R_ (noFrL_ok NI_) BK_ ?_) | (refine Seq.callp false (cp) Tryz.func63 gR_ok subG.refl (by rfl) (by rfl) rfl rfl rfl rfl rfl (by rfl) rfl VW_ NI_ NI_ FR_ ?_) | (refine Seq.lit (by rfl) (by rfl) LT2_ ?_) | (refine VC.litF (by rfl) LFA_ ?_) | fail)
  refine VC.loop (fun k : Nat=>⟨[(10,.int .i64 (k : Nat)),(8,txT l),(7,.int .i64 (stop : Nat)),(6,.int .i64 (m : Nat)),(1,.str t),(0,.ptr 2 [])],rjL 3 5 n (wrK n D stop l k).1 N B T ((m : Int) + 1) (stop + cnt t.length) false,gR,6⟩) (fun k=>k ≤ l.length∧(wrK n D stop l k).2 = 0) (fun k=>l.length - k) 0 ⟨by omega,rfl⟩ (by
    show ∀ a_1 w,_→Sim _ ⟨_,rjL 3 5 n D N B T ((m : Int) + 1) (stop + cnt t.length) false,_,_⟩ a_1 w
    exact (Sim.less [] (by rfl) R_ R_)
    all_goals trace_state) fun k hk=>?_
  obtain ⟨hk1,hk2⟩:=hk
  by_cases hkl : k < l.length
  · have gk:=gK k (by omega)
    have e1 : wrK n D stop l (k + 1) = (wr1 n (wrK n D stop l k).1 ((stop + k : Nat) : Int) (l.getD k []),wr1E n (wrK n D stop l k).1 ((stop + k : Nat) : Int) (l.getD k [])):=by rw [wrK,if_pos hk2]
    have hstp:=fun h=>wrK_stop (n:=n) (D:=D) (a:=stop) (l:=l) (j:=k + 1) h (l.length - (k + 1))
    rw [show k + 1 + (l.length - (k + 1)) = l.length by omega,e1] at hstp
    have cw:=rcw_ok gk ((stop + k : Nat) : Int) (l.getD k []) (hls k hkl)
    generalize hD1 : (wrK n D stop l k).1 = D1 at *
    generalize hD2 : wr1 n D1 ((stop + k : Nat) : Int) (l.getD k []) = D2 at *
    generalize hE2 : wr1E n D1 ((stop + k : Nat) : Int) (l.getD k []) = E2 at *
    repeat' (first | (refine SS_ ?_) | (refine VC.drawm (id:=15) [(0,0),(1,1),(2,3),(3,7),(4,0),(5,0),(6,48),(7,0),(8,0),(9,384),(10,896)] [11,12] (by rfl) (by kernel_rfl) (by rfl) ?_) | (refine Seq.callo false [] [] (.int .i64 E2) (rDD n D2) 6 (cw) Tryz.func10 gR_ok subG.nil (by rfl) (by rfl) rfl rfl rfl rfl rfl (by rfl) rfl (by rfl) (by rfl) (by rfl) (by rfl) VW_ NI_ R_ (noFrL_ok NI_) BK_ ?_) | (refine VC.litT (by rfl) LTR_ ?_) | (refine DD_ ?_) | (refine VC.cond (by rfl) (fun hb=>?_) (fun hb=>?_) <;> (fail_if_success (with_reducible have:=litT_ hb)) <;> (fail_if_success (with_reducible have:=litF_ hb)) <;> (try simp only [HB_] at hb) <;> (try (exfalso;first | omega | (cases hb;done)))) | fail)
    · have hb : E2 ≠ 0:=hb
      rw [hstp hb,if_pos hb] at hw
      have hq : D' = D2∧e = E2∧b = false:=by cases hw;exact ⟨rfl,rfl,rfl⟩
      rw [hq.1,hq.2.1,hq.2.2,if_neg (by decide),if_pos hb,if_neg (by decide),if_neg (by decide),decide_eq_true hb]
      refine retC_conv' (s':=⟨[(4,.int .i64 0),(5,.int .i64 E2)],rjL 6 7 n D2 N B T ((m : Int) + 1) (stop + cnt t.length) true,gR,8⟩) (Sim.less [(6,3),(7,5)] (by rfl) R_ R_) ?_
      (refine retC_mk ([(4,.int .i64 0),(5,.int .i64 E2)]) (rjL 6 7 n D2 N B T ((m : Int) + 1) (stop + cnt t.length) true) 8 (Sim.less [] (by rfl) R_ R_) (retQ_ok (by rfl) (rjL 6 7 n D2 N B T ((m : Int) + 1) (stop + cnt t.length) true) (fun i av h=>h) ⟨?_,?_⟩)) <;> rfl
    · have hb : E2 = 0:=by omega
      refine ⟨k + 1,⟨by omega,by rw [e1];exact hb⟩,by omega,?_⟩
      rw [e1]
      exact (Sim.less [] (by rfl) R_ R_)
  · obtain rfl : k = l.length:=by omega
    rw [if_neg (fun h=>h hk2)] at hw
    have gk:=gK l.length (Nat.le_refl _)
    generalize hD1 : (wrK n D stop l l.length).1 = D1 at *
    have cf:=rcf_ok gk
    have hof:=on_F (n:=n) (D:=D1)
    have hg3 : GoodD n (doD n D1 opF):=good_do gk opF_ok
    generalize hD3 : doD n D1 opF = D3 at *
    generalize hE3 : doE n D1 opF = E3 at *
    repeat' (first | (refine SS_ ?_) | (refine Seq.callo false [] [] (.int .i64 E3) (rDD n D3) 6 (cf) Tryz.func64 gR_ok subG.nil (by rfl) (by rfl) rfl rfl rfl rfl rfl (by rfl) rfl (by rfl) (by rfl) (by rfl) (by rfl) VW_ NI_ R_ (noFrL_ok NI_) BK_ ?_) | (refine VC.litF (by rfl) LFA_ ?_) | (refine VC.cond (by rfl) (fun hb=>?_) (fun hb=>?_) <;> (fail_if_success (with_reducible have:=litT_ hb)) <;> (fail_if_success (with_reducible have:=litF_ hb)) <;> (try simp only [HB_] at hb) <;> (try (exfalso;first | omega | (cases hb;done)))) | fail)
    · have hb : E3 ≠ 0:=hb
      rw [if_pos hb] at hw
      have hq : D' = D3∧e = E3∧b = false:=by cases hw;exact ⟨rfl,rfl,rfl⟩
      rw [hq.1,hq.2.1,hq.2.2,if_neg (by decide),if_pos hb,if_neg (by decide),if_neg (by decide),decide_eq_true hb]
      refine retC_conv' (s':=⟨[(4,.int .i64 0),(5,.int .i64 E3)],rjL 6 7 n D3 N B T ((m : Int) + 1) (stop + cnt t.length) true,gR,8⟩) (Sim.less [(6,3),(7,5)] (by rfl) R_ R_) ?_
      (refine retC_mk ([(4,.int .i64 0),(5,.int .i64 E3)]) (rjL 6 7 n D3 N B T ((m : Int) + 1) (stop + cnt t.length) true) 8 (Sim.less [] (by rfl) R_ R_) (retQ_ok (by rfl) (rjL 6 7 n D3 N B T ((m : Int) + 1) (stop + cnt t.length) true) (fun i av h=>h) ⟨?_,?_⟩)) <;> rfl
    have hb : E3 = 0:=by omega
    rw [if_neg (fun h=>h hb)] at hw
    have hq : D' = D3∧e = 0∧b = sameK n D3 stop l l.length:=by cases hw;exact ⟨rfl,rfl,rfl⟩
    rw [hq.1,hq.2.1,hq.2.2,if_neg (show ¬ ((0 : Int) ≠ 0) by decide),decide_eq_false (show ¬ ((0 : Int) ≠ 0) by decide)]
    have hon:=hof hb
    refine VC.loop (fun k : Nat=>⟨[(14,.int .i64 (k : Nat)),(13,.bool (sameK n D3 stop l k)),(8,txT l),(7,.int .i64 (stop : Nat)),(6,.int .i64 (m : Nat)),(1,.str t),(0,.ptr 2 [])],rjL 3 5 n D3 N B T ((m : Int) + 1) (stop + cnt t.length) false,gR,6⟩) (fun k=>k ≤ l.length) (fun k=>l.length - k) 0 (Nat.zero_le _) (Sim.less [] (by rfl) R_ R_) fun k hk=>?_
    by_cases hkl : k < l.length
    · have rd:=rread_ok (n:=n) (S:=secs n D3.B D3.P D3.W) (off:=D3.off) (left:=max (-1) D3.left) ((stop + k : Nat) : Int)
      rw [read_secs,show chk n D3.off ((stop + k : Nat) : Int) = 0 by rw [hon];exact chk_in (by omega)] at rd
      have hsk : sameK n D3 stop l (k + 1) = (sameK n D3 stop l k && decide (l.getD k [] = rdS n D3.off D3.B D3.P ((stop + k : Nat) : Int))):=rfl
      generalize hS : rdS n D3.off D3.B D3.P ((stop + k : Nat) : Int) = S at *
      have hlk : l.getD ((k : Int)).toNat [] = l.getD k []:=by rw [Int.toNat_natCast]
      rw [show decide (l.getD k [] = S) = decide (S = l.getD k []) from decide_eq_decide.2 ⟨Eq.symm,Eq.symm⟩] at hsk
      cases hs : sameK n D3 stop l k with
      | true =>
        rw [hs] at hsk
        repeat' (first | (refine SS_ ?_) | (refine Seq.callo false [] [] (.tup (.pair (.str S) (.pair (.int .i64 0) .nul))) (rDD n D3) 6 (rd) Tryz.func52 gR_ok subG.nil (by rfl) (by rfl) rfl rfl rfl rfl rfl (by rfl) rfl (by rfl) (by rfl) (by rfl) (by rfl) VW_ NI_ R_ (noFrL_ok NI_) BK_ ?_) | (refine VC.litT (by rfl) LTR_ ?_) | (refine VC.litF (by rfl) LFA_ ?_) | fail)
        refine ⟨k + 1,by omega,by omega,?_⟩
        rw [hsk,Bool.true_and]
        exact (Sim.less [] (by rfl) R_ R_)
      | false =>
        rw [hs] at hsk
        repeat' (first | (refine SS_ ?_) | (refine Seq.callo false [] [] (.tup (.pair (.str S) (.pair (.int .i64 0) .nul))) (rDD n D3) 6 (rd) Tryz.func52 gR_ok subG.nil (by rfl) (by rfl) rfl rfl rfl rfl rfl (by rfl) rfl (by rfl) (by rfl) (by rfl) (by rfl) VW_ NI_ R_ (noFrL_ok NI_) BK_ ?_) | (refine VC.litT (by rfl) LTR_ ?_) | (refine VC.litF (by rfl) LFA_ ?_) | fail)
        refine ⟨k + 1,by omega,by omega,?_⟩
        rw [hsk,Bool.false_and]
        exact (Sim.less [] (by rfl) R_ R_)
    · obtain rfl : k = l.length:=by omega
      cases hs : sameK n D3 stop l l.length with
      | false =>
        rw [if_neg (by decide),if_neg (by decide),if_neg (by decide),if_neg (by decide)]
        repeat' (first | (refine SS_ ?_) | (refine VC.litT (by rfl) LTR_ ?_) | (refine VC.litF (by rfl) LFA_ ?_) | fail)
        refine retC_conv' (s':=⟨[(4,.int .i64 0),(5,.int .i64 21)],rjL 6 7 n D3 N B T ((m : Int) + 1) (stop + cnt t.length) false,gR,8⟩) (Sim.less [(6,3),(7,5)] (by rfl) R_ R_) ?_
        (refine retC_mk ([(4,.int .i64 0),(5,.int .i64 21)]) (rjL 6 7 n D3 N B T ((m : Int) + 1) (stop + cnt t.length) false) 8 (Sim.less [] (by rfl) R_ R_) (retQ_ok (by rfl) (rjL 6 7 n D3 N B T ((m : Int) + 1) (stop + cnt t.length) false) (fun i av h=>h) ⟨?_,?_⟩)) <;> rfl
      | true =>
        rw [if_pos rfl,if_pos rfl,if_pos rfl,if_pos rfl]
        repeat' (first | (refine SS_ ?_) | (refine VC.litF (by rfl) LFA_ ?_) | fail)
        refine retC_conv' (s':=⟨[(4,.int .i64 (m : Nat)),(5,.int .i64 0)],rjL 6 7 n D3 (N ++ [(m : Int)]) B (T ++ [t]) ((m : Int) + 1) (stop + cnt t.length) false,gR,10⟩) (by
          unfold rjL rjA liO txO
          rw [List.length_append,List.length_append,List.length_singleton,List.length_singleton]
          (refine Sim.less [(6,7),(7,9)] (by rfl) ?_ ?_ <;> (repeat' (first | (exact EnvLe.nil) | (exact HeapLe.nil) | (with_reducible apply EnvLe.cons) | (with_reducible apply HeapLe.cons) | ((with_reducible refine RelA.int ?_;first | (refine Keep.mk ?_;first | with_reducible rfl | omega | decide) | skip)) | (exact rfl) | (exact ⟨rfl,rfl⟩) | ((with_reducible refine RelA.arr ?_;intro i hi)) | (with_reducible refine RelA.pair ?_ ?_) | ((refine RelA.arr ?_;intro i hi)) | fail)) <;> (try with_reducible refine Keep.mk ?_))
          · exact rel_snocG (G:=AV.int .i64) (fun e=>NI_) (by assumption)
          · exact rel_snocG (G:=AV.str) (fun e=>NI_) (by assumption)) ?_
        (refine retC_mk ([(4,.int .i64 (m : Nat)),(5,.int .i64 0)]) (rjL 6 7 n D3 (N ++ [(m : Int)]) B (T ++ [t]) ((m : Int) + 1) (stop + cnt t.length) false) 10 (Sim.less [] (by rfl) R_ R_) (retQ_ok (by rfl) (rjL 6 7 n D3 (N ++ [(m : Int)]) B (T ++ [t]) ((m : Int) + 1) (stop + cnt t.length) false) (fun i av h=>h) ⟨?_,?_⟩)) <;> rfl
end
section
variable {n c : Nat} {D : Disk} {J : Jr}
theorem rappend_ok (hG : GoodD n D) (hJ : JOkN n c J) (hc : c ≤ 1048576) (t : Bs) (ht : t.length ≤ 9223372036854775807) : Ok Tryz.prog 25 gR (rjH n D (max (-1) D.left) J) (.pair (.ptr 2 []) (.pair (.str t) .nul))
    (fun r h'=>r = .tup (.pair (.int .i64 (app n D J t).2.1) (.pair (.int .i64 (app n D J t).2.2) .nul))∧h' = rjHn n (app n D J t).1.1 (app n D J t).1.2):=by
  have hn:=hG.n1
  have j1:=hJ.n1;have j2:=hJ.n2;have j3:=hJ.stop;have j4:=hJ.len
  have l1:=nums_len (J:=J)
  have l2:=texts_len (J:=J)
  obtain ⟨R,bd,next,stop,shut⟩:=J
  have j1 : 1 ≤ next:=j1
  have j2 : next ≤ 4097:=j2
  have j3 : stop ≤ n:=j3
  unfold app
  cases shut with
  | true =>
    rw [if_pos rfl]
    exact rapp_shut next t
  | false =>
    rw [if_neg (show ¬ false = true by decide)]
    by_cases h1 : 8000 < t.length ∨ 4096 < next
    · rw [if_pos h1]
      exact rapp_limit next t ht h1
    · rw [if_neg h1]
      by_cases h2 : (n : Int) - stop < cnt t.length
      · rw [if_pos h2]
        exact rapp_full next t hn j3 (by omega) (by omega) h2
      · rw [if_neg h2]
        obtain ⟨m,rfl⟩ : ∃ m : Nat,next = m:=⟨next.toNat,by omega⟩
        have hgo:=rapp_go (N:=nums ⟨R,bd,(m : Int),stop,false⟩) (B:=bd) (T:=texts ⟨R,bd,(m : Int),stop,false⟩) (stop:=stop) hG m t (by omega) (by omega) (by omega) (by omega) (by rw [l1];omega) (by rw [l2];omega) (D':=(wfr n D stop (parts m t)).1) (e:=(wfr n D stop (parts m t)).2.1) (b:=(wfr n D stop (parts m t)).2.2) rfl wfr_err
        simp only [Int.toNat_natCast]
        by_cases h3 : (wfr n D stop (parts m t)).2.1 ≠ 0
        · rw [if_pos h3,decide_eq_true h3,wfr_err h3] at hgo
          rw [if_pos h3]
          exact hgo
        · rw [if_neg h3,decide_eq_false h3] at hgo
          rw [if_neg h3]
          by_cases h4 : (wfr n D stop (parts m t)).2.2 = false
          · rw [h4] at hgo
            rw [if_pos h4]
            exact hgo
          · have h5 : (wfr n D stop (parts m t)).2.2 = true:=by simpa using h4
            rw [h5] at hgo
            rw [if_neg h4]
            rw [if_pos rfl,if_pos rfl,if_pos rfl,if_pos rfl] at hgo
            have e1 : nums (jAdd ⟨R,bd,(m : Int),stop,false⟩ t) = nums ⟨R,bd,(m : Int),stop,false⟩ ++ [(m : Int)]:=by unfold nums jAdd;rw [List.map_append];rfl
            have e2 : texts (jAdd ⟨R,bd,(m : Int),stop,false⟩ t) = texts ⟨R,bd,(m : Int),stop,false⟩ ++ [t]:=by unfold texts jAdd;rw [List.map_append];rfl
            rw [← e1,← e2] at hgo
            exact hgo
end
end Go.Proofs.YtmbldnahcmkpgaaGreatDoor
