/- Journals, plain: the examples of sanity. Journals: equality of lists of texts; Unpack. dioramalaw42.sanity. Journals, plain: records one after the other on a disk with worn sectors. JournalGoesOn: scripts; the early ends. -/
import Derived.Test.YtmbldnahcmkpgaaGreatDoorSn
import Derived.Test.YtmbldnahcmkpgaaGreatDoorBe
set_option linter.unusedSimpArgs false
set_option linter.unusedVariables false
namespace Go.Proofs.YtmbldnahcmkpgaaGreatDoor
open Go.V Go.RowKit Go.L Go.Lx Go.Jn Go.Dk
set_option maxRecDepth 20000
def ysX : Bs:=Lib.repeatL [120] 50
theorem ysX_len : ysX.length = 50:=by decide
def yS1 : Bs:=sec 1 0 [97]
def yS2 : Bs:=sec 2 0 ysX
def yS3 : Bs:=sec 2 1 (ysX.drop 48)
def yS4 : Bs:=sec 3 0 [98]
def ySF : Bs:=Dk.flip yS2 70
def yB0 : List Bs:=[zs,zs,zs,zs]
def yB1 : List Bs:=[yS1,zs,zs,zs]
def yB2 : List Bs:=[yS1,yS2,yS3,zs]
def yB3 : List Bs:=[yS1,ySF,yS3,zs]
def yB4 : List Bs:=[yS1,ySF,yS3,yS4]
def yJ0 : Jr:=⟨[],[],1,0,false⟩
def yJ1 : Jr:=⟨[(1,[97])],[],2,1,false⟩
def yJ2 : Jr:=⟨[(1,[97]),(2,ysX)],[],3,3,false⟩
def yJ3 : Jr:=⟨[(1,[97])],[1],3,3,false⟩
def yJ4 : Jr:=⟨[(1,[97]),(3,[98])],[1],4,4,false⟩
theorem parts1 (n : Nat) (t : Bs) (h : t.length = 1) : parts n t = [sec n 0 t]:=by
  unfold parts
  rw [show cnt t.length = 1 by rw [h];rfl]
  show [sec n 0 (t.drop (48 * 0))] = _
  rw [Nat.mul_zero,List.drop_zero]
theorem parts2 : parts 2 ysX = [yS2,yS3]:=by
  unfold parts
  rw [show cnt ysX.length = 2 by rw [ysX_len];rfl]
  show [sec 2 0 (ysX.drop (48 * 0)),sec 2 1 (ysX.drop (48 * 1))] = _
  rw [Nat.mul_zero,List.drop_zero];rfl
theorem yzs64 : zs.length = 64:=by unfold zs;rw [List.length_replicate]
theorem ySF_len : ySF.length = 64:=by unfold ySF;rw [flip_len];exact sec_len _ _ _
theorem ygoodB {a b c d : Bs} (ha : a.length = 64) (hb : b.length = 64) (hc : c.length = 64) (hd : d.length = 64) : GoodD 4 (calm [a,b,c,d]):=good_calm rfl (fun x hx=>by
  simp only [List.mem_cons,List.not_mem_nil,or_false] at hx
  rcases hx with rfl | rfl | rfl | rfl <;> assumption) (by decide) (by decide)
theorem yg0 : GoodD 4 (calm yB0):=ygoodB yzs64 yzs64 yzs64 yzs64
theorem yg1 : GoodD 4 (calm yB1):=ygoodB (sec_len _ _ _) yzs64 yzs64 yzs64
theorem yg2 : GoodD 4 (calm yB2):=ygoodB (sec_len _ _ _) (sec_len _ _ _) (sec_len _ _ _) yzs64
theorem yg3 : GoodD 4 (calm yB3):=ygoodB (sec_len _ _ _) ySF_len (sec_len _ _ _) yzs64
theorem yg4 : GoodD 4 (calm yB4):=ygoodB (sec_len _ _ _) ySF_len (sec_len _ _ _) (sec_len _ _ _)
theorem rdL_calm {n : Nat} {B : List Bs} (h : B.length = n) : rdL n (calm B) = B:=ext_getD (by rw [rdL_len,h]) fun i hi=>by
  rw [rdL_len] at hi
  rw [rdL_get hi]
  exact rd_calm (D:=calm B) hi rfl rfl
theorem yo0 : opn (rdL 4 (calm yB0)) = yJ0:=by
  rw [rdL_calm (n:=4) rfl]
  exact opn_blank 4
theorem ya1 : app 4 (calm yB0) yJ0 [97] = ((calm yB1,yJ1),(1,0)):=by
  rw [app_calm yg0 rfl (by decide) (by decide) (by decide) (by decide)]
  show ((calm (putL yB0 0 (parts 1 [97])),jAdd yJ0 [97]),(yJ0.next,0)) = _
  rw [parts1 1 [97] rfl];rfl
theorem ya2 : app 4 (calm yB1) yJ1 ysX = ((calm yB2,yJ2),(2,0)):=by
  have hc : cnt ysX.length = 2:=by rw [ysX_len];rfl
  rw [app_calm yg1 rfl (by decide) (by rw [ysX_len];decide) (by decide) (by rw [hc];decide)]
  show ((calm (putL yB1 1 (parts 2 ysX)),jAdd yJ1 ysX),(yJ1.next,0)) = _
  rw [parts2]
  unfold jAdd
  rw [hc];rfl
theorem yhd2 : hd 2 0 ysX = [2,0,0,0,0,0,50,0] ++ List.replicate 48 120:=by decide
theorem ySFbad : ¬ Fine ySF:=fun h=>by
  have h1:=h.sum
  have e1 : ySF = (hd 2 0 ysX).set 8 56 ++ sum8 (hd 2 0 ysX):=by
    unfold ySF yS2 sec chkd Dk.flip
    rw [show (70 : Nat) / 8 = 8 from rfl,List.set_append_left _ _ (by rw [hd_len];decide)]
    congr 2
  have hl : ((hd 2 0 ysX).set 8 56).length = 56:=by rw [List.length_set,hd_len]
  rw [e1,List.take_left' hl,List.drop_left' hl] at h1
  have h2:=congrArg (fun l : Bs=>(l.map UInt8.toNat).take 1) h1
  unfold sum8 at h2
  simp only [List.map_take] at h2
  rw [Sha.sum_l,Sha.sum_l,yhd2] at h2
  revert h2
  decide +kernel
theorem yu1 : unp yS1 = ⟨1,0,1,[97],true⟩:=unp_sec (by decide) (by decide) (by decide) (by decide) (by decide)
theorem yu3 : unp yS3 = ⟨2,1,2,[120,120],true⟩:=by
  have : ysX.drop 48 = [120,120]:=by decide
  unfold yS3
  rw [this]
  exact unp_sec (by decide) (by decide) (by decide) (by decide) (by decide)
theorem ySF_blank : ¬ isBlank ySF:=fun h=>by
  have h1:=h 0 (by rw [ySF_len];decide)
  have e1 : ySF = (hd 2 0 ysX).set 8 56 ++ sum8 (hd 2 0 ysX):=by
    unfold ySF yS2 sec chkd Dk.flip
    rw [show (70 : Nat) / 8 = 8 from rfl,List.set_append_left _ _ (by rw [hd_len];decide)]
    congr 2
  rw [e1,yhd2] at h1
  exact absurd h1 (by decide)
theorem yo3 : opn (rdL 4 (calm yB3)) = yJ3:=by
  rw [rdL_calm (n:=4) rfl]
  have n1 : ¬ isBlank yS1:=not_blank_sec (by decide) (by decide)
  have n3 : ¬ isBlank yS3:=not_blank_sec (by decide) (by decide)
  have uf : unp ySF = noPart:=unp_no ySFbad
  have hb : bads yB3 4 = [1]:=by
    show bads [yS1,ySF,yS3,zs] 4 = [1]
    simp only [bads,List.getD_cons_succ,List.getD_cons_zero,yu1,uf,yu3,unp_zs,noPart,n1,n3,ySF_blank,blank_zs,not_true_eq_false,and_false,if_false,not_false_eq_true,and_true,if_true,Bool.true_eq_false,false_and,and_self,List.nil_append]
    rfl
  have hs : stopAt yB3 4 = 3:=by
    show stopAt [yS1,ySF,yS3,zs] 4 = 3
    simp only [stopAt,List.getD_cons_succ,List.getD_cons_zero,n1,n3,ySF_blank,blank_zs,if_true,if_false]
  have hn : nextOf yB3 4 = 3:=by
    show nextOf [yS1,ySF,yS3,zs] 4 = 3
    simp only [nextOf,List.getD_cons_succ,List.getD_cons_zero,yu1,uf,yu3,unp_zs,noPart]
    decide
  have hr : scan 0 (yB3.map unp) [] = [(1,[97])]:=by
    show scan 0 [unp yS1,unp ySF,unp yS3,unp zs] [] = _
    rw [yu1,uf,yu3,unp_zs]
    decide
  unfold opn
  show Jr.mk (scan 0 (yB3.map unp) []) (bads yB3 4) (nextOf yB3 4) (stopAt yB3 4) false = _
  rw [hb,hs,hn,hr];rfl
theorem ya3 : app 4 (calm yB3) yJ3 [98] = ((calm yB4,yJ4),(3,0)):=by
  rw [app_calm yg3 rfl (by decide) (by decide) (by decide) (by decide)]
  show ((calm (putL yB3 3 (parts 3 [98])),jAdd yJ3 [98]),(yJ3.next,0)) = _
  rw [parts1 3 [98] rfl];rfl
theorem ya4 : app 4 (calm yB4) yJ4 [99] = ((calm yB4,yJ4),(0,19)):=by
  unfold app
  rw [if_neg (by decide),if_neg (by decide),if_pos (by decide)]
theorem yj3 : JOkN 4 4 yJ3:=⟨by decide,by decide,by decide,by decide,by decide⟩
theorem yj0 : JOkN 4 4 yJ0:=⟨by decide,by decide,by decide,by decide,by decide⟩
theorem yj1 : JOkN 4 4 yJ1:=⟨by decide,by decide,by decide,by decide,by decide⟩
theorem yj4 : JOkN 4 4 yJ4:=⟨by decide,by decide,by decide,by decide,by decide⟩
theorem ydmg4 : damaged yJ4 = [2]:=by decide
end Go.Proofs.YtmbldnahcmkpgaaGreatDoor

namespace Go.Proofs.YtmbldnahcmkpgaaGreatDoor
open Go.V Go.RowKit Go.L Go.Lx Go.Jn Go.Dk
set_option maxRecDepth 10000
set_option maxHeartbeats 4000000
set_option maxRecDepth 10000 in
theorem sameTx_ok (A C : List Bs) (hA : A.length ≤ 9223372036854775807) (hC : C.length ≤ 9223372036854775807) : Ok Tryz.prog 15 [] [] (.pair (.rsl false A.length 1 (fun i=>.str (A.getD i []))) (.pair (.rsl false C.length 1 (fun i=>.str (C.getD i []))) .nul)) (fun r h'=>r = .bool (decide (A = C))∧h' = []):=by
  by_cases hlen : A.length = C.length
  · refine Ok.of_vcC tt_ok Tryz.func15 rfl rfl (by show 2 ≤ _;decide) 0 (hlt_ok (by rfl)) fun c0=>?_
    repeat' (first | (refine SS_ ?_) | (refine VC.litF (by rfl) LFA_ ?_) | fail)
    refine VC.loop (fun k : Nat=>⟨[(5,.int .i64 (k : Nat)),(1,.rsl false C.length 1 (fun i=>.str (C.getD i []))),(0,.rsl false A.length 1 (fun i=>.str (A.getD i [])))],[],[],0⟩) (fun k=>k ≤ A.length∧∀ j,j < k→A.getD j [] = C.getD j []) (fun k=>A.length - k) 0 ⟨by omega,fun j hj=>absurd hj (Nat.not_lt_zero _)⟩ (Sim.less [] (by rfl) R_ R_) fun k hk=>?_
    obtain ⟨hk,hall⟩:=hk
    by_cases hkn : k < A.length
    · repeat' (first | (refine SS_ ?_) | (refine VC.drawm (id:=6) [(0,0),(1,0),(2,3),(3,7),(4,0),(5,0),(6,48),(7,112),(8,255)] [] (by rfl) (by kernel_rfl) (by rfl) ?_) | (refine VC.litT (by rfl) LTR_ ?_) | (refine DD_ ?_) | (refine VC.cond (by rfl) (fun hb=>?_) (fun hb=>?_) <;> (fail_if_success (with_reducible have:=litT_ hb)) <;> (fail_if_success (with_reducible have:=litF_ hb)) <;> (try simp only [HB_] at hb) <;> (try (exfalso;first | omega | (cases hb;done)))) | fail)
      · rw [decide_eq_false (fun e : A = C=>hb (by rw [e]))]
        (refine retC_mk ([(4,.bool false)]) ([]) 0 (Sim.less [] (by rfl) R_ R_) (retQ_ok (by rfl) ([]) (fun i av h=>h) ⟨?_,?_⟩)) <;> rfl
      · refine ⟨k + 1,⟨by omega,fun j hj=>?_⟩,by omega,by exact (Sim.less [] (by rfl) R_ R_)⟩
        rcases Nat.lt_or_ge j k with h | h
        · exact hall j h
        · obtain rfl : j = k:=by omega
          simpa using hb
    · repeat' (first | (refine SS_ ?_) | (refine VC.litF (by rfl) LFA_ ?_) | fail)
      have e : A = C:=List.ext_getElem hlen fun j h1 h2=>by
        have:=hall j (by omega)
        rw [List.getD_eq_getElem?_getD,List.getElem?_eq_getElem h1,List.getD_eq_getElem?_getD,List.getElem?_eq_getElem h2] at this
        exact this
      rw [decide_eq_true e]
      (refine retC_mk ([(4,.bool true)]) ([]) 0 (Sim.less [] (by rfl) R_ R_) (retQ_ok (by rfl) ([]) (fun i av h=>h) ⟨?_,?_⟩)) <;> rfl
  · have hne : A ≠ C:=fun e=>hlen (by rw [e])
    rw [decide_eq_false hne]
    refine Ok.of_vcC tt_ok Tryz.func15 rfl rfl (by show 2 ≤ _;decide) 0 (hlt_ok (by rfl)) fun c0=>?_
    repeat' (first | (refine SS_ ?_) | (refine VC.litT (by rfl) LTR_ ?_) | fail)
    (refine retC_mk ([(4,.bool false)]) ([]) 0 (Sim.less [] (by rfl) R_ R_) (retQ_ok (by rfl) ([]) (fun i av h=>h) ⟨?_,?_⟩)) <;> rfl
theorem junpack_ok (s : Bs) (hs : s.length ≤ 9223372036854775807) : Ok Tryz.prog 37 gK [] (.pair (.str s) .nul) (fun r h'=>r = .tup (partA (unp s))∧h' = []):=by
  have c:=unpack_ok s hs
  generalize unp s = p at *
  refine Ok.of_vcC tt_ok Tryz.func37 rfl rfl (by show 1 ≤ _;decide) 0 (hlt_ok (by rfl)) fun c0=>?_
  repeat' (first | (refine SS_ ?_) | (refine Seq.callp false (c) Tryz.func48 gK_ok subG.refl (by rfl) (by rfl) rfl rfl rfl rfl rfl (by rfl) rfl VW_ NI_ NI_ FR_ ?_) | (refine VC.drawn2 (id:=2) [(0,0),(1,1),(2,0),(3,4),(4,0),(5,16),(6,0),(7,64),(8,0),(9,256),(10,3),(11,1039),(12,3135),(13,7423)] [14] (by rfl) (by kernel_rfl) (by rfl) (by rfl) ?_) | (refine DD_ ?_) | fail)
  (refine retC_mk ([(2,.int .i64 (p.num : Nat)),(3,.int .i64 (p.part : Nat)),(4,.int .i64 (p.left : Nat)),(5,.str p.text),(6,.bool p.ok)]) ([]) 1 (Sim.less [] (by rfl) R_ R_) (retQ_ok (by rfl) ([]) (fun i av h=>h) ⟨?_,?_⟩)) <;> rfl
end Go.Proofs.YtmbldnahcmkpgaaGreatDoor

namespace Go.Proofs.YtmbldnahcmkpgaaGreatDoor
open Go.V Go.RowKit Go.L Go.Lx Go.Jn Go.Dk
set_option maxRecDepth 20000
set_option maxHeartbeats 4000000
theorem new4 : Ok Tryz.prog 7 [] [] (.pair (.int .i64 4) .nul) (fun r h'=>r = .tup (.pair (.ptr 3 []) (.pair (.int .i64 0) .nul))∧h' = [(3,dskA 4 0 1 2 false (-1)),(0,blksA 4 yB0),(1,pendA []),(2,wornA [])]):=new_ok 4 (by decide) (by decide)
theorem op0 : Ok Tryz.prog 11 gK (dD 4 (calm yB0)) (.pair (.ptr 0 []) .nul) (fun r h'=>r = .tup (.pair (.ptr 4 []) (.pair (.int .i64 0) .nul))∧h' = jH 4 (calm yB0) yJ0):=by
  have h:=open_ok yg0 rfl
  rw [yo0] at h
  exact h
theorem op3 : Ok Tryz.prog 11 gK (dD 4 (calm yB3)) (.pair (.ptr 0 []) .nul) (fun r h'=>r = .tup (.pair (.ptr 4 []) (.pair (.int .i64 0) .nul))∧h' = jH 4 (calm yB3) yJ3):=by
  have h:=open_ok yg3 rfl
  rw [yo3] at h
  exact h
theorem ap1 : Ok Tryz.prog 19 gK (jH 4 (calm yB0) yJ0) (.pair (.ptr 4 []) (.pair (.str [97]) .nul)) (fun r h'=>r = .tup (.pair (.int .i64 1) (.pair (.int .i64 0) .nul))∧h' = jHn 4 (calm yB1) yJ1):=by
  have h:=append_ok yg0 yj0 (by decide) [97] (by decide)
  rw [ya1] at h
  exact h
theorem ap2 : Ok Tryz.prog 19 gK (jH 4 (calm yB1) yJ1) (.pair (.ptr 4 []) (.pair (.str ysX) .nul)) (fun r h'=>r = .tup (.pair (.int .i64 2) (.pair (.int .i64 0) .nul))∧h' = jHn 4 (calm yB2) yJ2):=by
  have h:=append_ok yg1 yj1 (by decide) ysX (by rw [ysX_len];decide)
  rw [ya2] at h
  exact h
theorem ap3 : Ok Tryz.prog 19 gK (jH 4 (calm yB3) yJ3) (.pair (.ptr 4 []) (.pair (.str [98]) .nul)) (fun r h'=>r = .tup (.pair (.int .i64 3) (.pair (.int .i64 0) .nul))∧h' = jHn 4 (calm yB4) yJ4):=by
  have h:=append_ok yg3 yj3 (by decide) [98] (by decide)
  rw [ya3] at h
  exact h
theorem ap4 : Ok Tryz.prog 19 gK (jH 4 (calm yB4) yJ4) (.pair (.ptr 4 []) (.pair (.str [99]) .nul)) (fun r h'=>r = .tup (.pair (.int .i64 0) (.pair (.int .i64 19) .nul))∧h' = jHn 4 (calm yB4) yJ4):=by
  have h:=append_ok yg4 yj4 (by decide) [99] (by decide)
  rw [ya4] at h
  exact h
theorem rot2 : Ok Tryz.prog 28 [] (dD 4 (calm yB2)) (.pair (.ptr 0 []) (.pair (.int .i64 1) (.pair (.int .i64 70) .nul))) (fun r h'=>r = .int .i64 0∧h' = dD 4 (calm yB3)) :=
  rot_ok (n:=4) (B:=yB2) (P:=[]) (W:=[]) (off:=false) (left:=-1) 1 70 rfl yg2.b64
theorem rep50 : Ok Tryz.prog 35 [] [] (.pair (.str [120]) (.pair (.int .i64 50) .nul)) (fun r h'=>r = .str ysX∧h' = []):=repeat_ok [120] 50 (by decide) (by decide)
theorem pk1 : Ok Tryz.prog 36 gK [] (.pair (.int .i64 1) (.pair (.str [97]) .nul)) (fun r h'=>r = .tup (.pair (.rsl true 1 1 (fun i=>.str ([yS1].getD i []))) (.pair (.int .i64 0) .nul))∧h' = []):=by
  have h:=pack_ok 1 [97] (by decide) (by decide) (by decide)
  rw [parts1 1 [97] rfl] at h
  exact h
theorem up1 : Ok Tryz.prog 37 gK [] (.pair (.str yS1) .nul) (fun r h'=>r = .tup (partA ⟨1,0,1,[97],true⟩)∧h' = []):=by
  have h:=junpack_ok yS1 (by rw [show yS1.length = 64 from sec_len _ _ _];decide)
  rw [yu1] at h
  exact h
theorem sanity_ok : Ok Tryz.prog 6 gK [] .nul (fun r h'=>r = .bool true∧h' = []):=by
  have jn:=jnext_ok (n:=4) (D:=calm yB0) (J:=yJ0)
  have jr:=jroom_ok (n:=4) (D:=calm yB0) (J:=yJ0) (by decide) (by decide)
  have jr2:=jroom_ok (n:=4) (D:=calm yB2) (J:=yJ2) (by decide) (by decide)
  have n4:=jnums_ok (n:=4) (D:=calm yB4) (J:=yJ4) (by decide)
  have t4:=jtexts_ok (n:=4) (D:=calm yB4) (J:=yJ4) (by decide)
  have d4:=jdamaged_ok (n:=4) (D:=calm yB4) (J:=yJ4) (by decide) (by decide) (by decide)
  have b4:=jbad_ok (n:=4) (D:=calm yB4) (J:=yJ4) (by decide)
  have s1:=sameI_ok (nums yJ4) [1,3] (by decide) (by decide)
  have s2:=sameTx_ok (texts yJ4) [[97],[98]] (by decide) (by decide)
  have s3:=sameI_ok (damaged yJ4) [2] (by decide) (by decide)
  have s4:=sameI_ok yJ4.bad [1] (by decide) (by decide)
  have c49:=count_ok 49 ⟨by decide,by decide⟩
  rw [decide_eq_true (show nums yJ4 = [1,3] from rfl)] at s1
  rw [decide_eq_true (show texts yJ4 = [[97],[98]] from rfl)] at s2
  rw [decide_eq_true (show damaged yJ4 = [2] from ydmg4)] at s3
  rw [decide_eq_true (show yJ4.bad = [1] from rfl)] at s4
  refine Ok.of_vcC tt_ok Tryz.func6 rfl rfl (by show 0 ≤ _;decide) 0 (hlt_ok (by rfl)) fun c0=>?_
  repeat' (first | (refine VC.conv (x:=.region 7 _ _) (s':=⟨[(1,.ptr 0 []),(3,.ptr 4 [])],jH 4 (calm yB0) yJ0,gK,8⟩) (Sim.less [] (by rfl) R_ R_) (VC.region ?_)) | (refine VC.conv (x:=.region 8 _ _) (s':=⟨[(1,.ptr 0 []),(3,.ptr 4 []),(5,.int .i64 1),(6,.int .i64 0)],jH 4 (calm yB1) yJ1,gK,10⟩) (Sim.less [(5,8),(7,9)] (by rfl) R_ R_) (VC.region ?_)) | (refine VC.conv (x:=.region 9 _ _) (s':=⟨[(1,.ptr 0 []),(3,.ptr 4 []),(5,.int .i64 1),(6,.int .i64 0),(7,.int .i64 2),(8,.int .i64 0)],jH 4 (calm yB2) yJ2,gK,12⟩) (Sim.less [(5,10),(7,11)] (by rfl) R_ R_) (VC.region ?_)) | (refine VC.conv (x:=.region 11 _ _) (s':=⟨[(1,.ptr 0 []),(5,.int .i64 1),(6,.int .i64 0),(7,.int .i64 2),(8,.int .i64 0),(9,.int .i64 1),(10,.int .i64 0)],dD 4 (calm yB3),gK,12⟩) (Sim.less [] (by rfl) R_ R_) (VC.region ?_)) | (refine VC.conv (x:=.region 12 _ _) (s':=⟨[(11,.ptr 4 []),(12,.int .i64 0),(5,.int .i64 1),(6,.int .i64 0),(7,.int .i64 2),(8,.int .i64 0),(9,.int .i64 1),(10,.int .i64 0)],jH 4 (calm yB3) yJ3,gK,16⟩) (Sim.less [(4,12),(5,13),(6,14),(7,15)] (by rfl) R_ R_) (VC.region ?_)) | (refine VC.conv (x:=.region 14 _ _) (s':=⟨[(11,.ptr 4 [])],jH 4 (calm yB3) yJ3,gK,16⟩) (Sim.less [] (by rfl) R_ R_) (VC.region ?_)) | (refine VC.conv (x:=.region 15 _ _) (s':=⟨[(11,.ptr 4 []),(13,.int .i64 3),(14,.int .i64 0)],jH 4 (calm yB4) yJ4,gK,18⟩) (Sim.less [(5,16),(7,17)] (by rfl) R_ R_) (VC.region ?_)) | (refine VC.conv (x:=.region 16 _ _) (s':=⟨[(11,.ptr 4 []),(13,.int .i64 3),(14,.int .i64 0),(15,.int .i64 0),(16,.int .i64 19)],jH 4 (calm yB4) yJ4,gK,20⟩) (Sim.less [(5,18),(7,19)] (by rfl) R_ R_) (VC.region ?_)) | (refine VC.conv (x:=.region 20 _ _) (s':=⟨[(11,.ptr 4 []),(19,.int .i64 1),(20,.int .i64 0),(21,.int .i64 1),(22,.str [97]),(23,.bool true)],jH 4 (calm yB4) yJ4,gK,20⟩) (Sim.less [] (by rfl) R_ R_) (VC.region ?_)) | (first | with_reducible refine VC.seq ?_ | with_reducible refine VC.block ?_ | with_reducible refine VC.region ?_ | with_reducible refine VC.exit ?_ | with_reducible refine VC.ret ?_ | with_reducible refine VC.skip ?_ | with_reducible refine Seq.nil ?_ | with_reducible refine thenQ_n ?_ | with_reducible refine thenQ_r ?_ | with_reducible refine thenQ_e ?_ | with_reducible refine inQ_n ?_ | with_reducible refine inQ_r ?_ | with_reducible refine inQ_e ?_ | ((with_reducible refine inQ_o ?_ ?_);rfl) | (refine Seq.ev0 true tt_ok (by rfl) (by (first | exact trivial | exact u8_in _ rfl | exact u32_in _ rfl | ((with_reducible refine AllP.guard ?_);simp only [AllP,inI,fitV,maxK,inK,inbL,inb,List.append,List.cons_append,List.nil_append,true_and,and_true];first | done | omega))) rfl rfl rfl ?_) | (refine Seq.ev true tt_ok (by rfl) (by (first | exact trivial | exact u8_in _ rfl | exact u32_in _ rfl | ((with_reducible refine AllP.guard ?_);simp only [AllP,inI,fitV,maxK,inK,inbL,inb,List.append,List.cons_append,List.nil_append,true_and,and_true];first | done | omega))) rfl rfl rfl ?_) | (refine Seq.evn true tt_ok (by rfl) (by (first | exact trivial | exact u8_in _ rfl | exact u32_in _ rfl | ((with_reducible refine AllP.guard ?_);simp only [AllP,inI,fitV,maxK,inK,inbL,inb,List.append,List.cons_append,List.nil_append,true_and,and_true];first | done | omega))) rfl ?_) | (refine Seq.pass (by rfl) rfl ?_)) | (refine Seq.callo false [] [(0,3),(1,0),(2,1),(3,2)] (.tup (.pair (.ptr 0 []) (.pair (.int .i64 0) .nul))) (dD 4 (calm yB0)) 4 (new4) Tryz.func7 gK_ok subG.nil (by rfl) (by rfl) rfl rfl rfl rfl rfl (by rfl) rfl (by rfl) (by rfl) (by rfl) (by rfl) VW_ NI_ R_ (noFrL_ok NI_) BK_ ?_) | (refine Seq.callo false [] [] (.tup (.pair (.ptr 4 []) (.pair (.int .i64 0) .nul))) (jH 4 (calm yB0) yJ0) 8 (op0) Tryz.func11 gK_ok subG.refl (by rfl) (by rfl) rfl rfl rfl rfl rfl (by rfl) rfl (by rfl) (by rfl) (by rfl) (by rfl) VW_ NI_ R_ (noFrL_ok NI_) BK_ ?_) | (refine Seq.callo false [] [] (.int .i64 1) (jH 4 (calm yB0) yJ0) 8 (jn) Tryz.func33 gK_ok subG.nil (by rfl) (by rfl) rfl rfl rfl rfl rfl (by rfl) rfl (by rfl) (by rfl) (by rfl) (by rfl) VW_ NI_ R_ (noFrL_ok NI_) BK_ ?_) | (refine Seq.callo false [] [] (.int .i64 4) (jH 4 (calm yB0) yJ0) 8 (jr) Tryz.func34 gK_ok subG.nil (by rfl) (by rfl) rfl rfl rfl rfl rfl (by rfl) rfl (by rfl) (by rfl) (by rfl) (by rfl) VW_ NI_ R_ (noFrL_ok NI_) BK_ ?_) | (refine Seq.callo false [] [] (.tup (.pair (.int .i64 1) (.pair (.int .i64 0) .nul))) (jHn 4 (calm yB1) yJ1) 10 (ap1) Tryz.func19 gK_ok subG.refl (by rfl) (by rfl) rfl rfl rfl rfl rfl (by rfl) rfl (by rfl) (by rfl) (by rfl) (by rfl) VW_ NI_ R_ (noFrL_ok NI_) BK_ ?_) | (refine Seq.callp false (rep50) Tryz.func35 gK_ok subG.nil (by rfl) (by rfl) rfl rfl rfl rfl rfl (by rfl) rfl VW_ NI_ NI_ FR_ ?_) | (refine Seq.callo false [] [(10,8),(11,9)] (.tup (.pair (.int .i64 2) (.pair (.int .i64 0) .nul))) (jL 10 11 4 (calm yB2) (nums yJ2) yJ2.bad (texts yJ2) yJ2.next yJ2.stop yJ2.shut) 12 (ap2) Tryz.func19 gK_ok subG.refl (by rfl) (by rfl) rfl rfl rfl rfl rfl (by rfl) rfl (by rfl) (by rfl) (by rfl) (by rfl) VW_ NI_ R_ (noFrL_ok NI_) BK_ ?_) | (refine Seq.callo false [] [] (.int .i64 1) (jH 4 (calm yB2) yJ2) 12 (jr2) Tryz.func34 gK_ok subG.nil (by rfl) (by rfl) rfl rfl rfl rfl rfl (by rfl) rfl (by rfl) (by rfl) (by rfl) (by rfl) VW_ NI_ R_ (noFrL_ok NI_) BK_ ?_) | (refine Seq.callo false [] [] (.int .i64 0) (dD 4 (calm yB3)) 12 (rot2) Tryz.func28 gK_ok subG.nil (by rfl) (by rfl) rfl rfl rfl rfl rfl (by rfl) rfl (by rfl) (by rfl) (by rfl) (by rfl) VW_ NI_ R_ (noFrL_ok NI_) BK_ ?_) | (refine Seq.callo false [] [(12,4),(13,5),(14,6),(15,7)] (.tup (.pair (.ptr 12 []) (.pair (.int .i64 0) .nul))) ((12,jrA 0 13 14 15 (nums yJ3) yJ3.bad (texts yJ3) yJ3.next yJ3.stop yJ3.shut)::(13,liO (nums yJ3))::(14,liO yJ3.bad)::(15,txO (texts yJ3))::dD 4 (calm yB3)) 16 (op3) Tryz.func11 gK_ok subG.refl (by rfl) (by rfl) rfl rfl rfl rfl rfl (by rfl) rfl (by rfl) (by rfl) (by rfl) (by rfl) VW_ NI_ R_ (noFrL_ok NI_) BK_ ?_) | (refine Seq.callo false [] [(16,8),(17,9)] (.tup (.pair (.int .i64 3) (.pair (.int .i64 0) .nul))) (jL 16 17 4 (calm yB4) (nums yJ4) yJ4.bad (texts yJ4) yJ4.next yJ4.stop yJ4.shut) 18 (ap3) Tryz.func19 gK_ok subG.refl (by rfl) (by rfl) rfl rfl rfl rfl rfl (by rfl) rfl (by rfl) (by rfl) (by rfl) (by rfl) VW_ NI_ R_ (noFrL_ok NI_) BK_ ?_) | (refine Seq.callo false [] [(18,8),(19,9)] (.tup (.pair (.int .i64 0) (.pair (.int .i64 19) .nul))) (jL 18 19 4 (calm yB4) (nums yJ4) yJ4.bad (texts yJ4) yJ4.next yJ4.stop yJ4.shut) 20 (ap4) Tryz.func19 gK_ok subG.refl (by rfl) (by rfl) rfl rfl rfl rfl rfl (by rfl) rfl (by rfl) (by rfl) (by rfl) (by rfl) VW_ NI_ R_ (noFrL_ok NI_) BK_ ?_) | (refine Seq.callp false (pk1) Tryz.func36 gK_ok subG.refl (by rfl) (by rfl) rfl rfl rfl rfl rfl (by rfl) rfl VW_ NI_ NI_ FR_ ?_) | (refine Seq.callp false (up1) Tryz.func37 gK_ok subG.refl (by rfl) (by rfl) rfl rfl rfl rfl rfl (by rfl) rfl VW_ NI_ NI_ FR_ ?_) | (refine VC.litF (by rfl) LFA_ ?_) | fail)
  repeat' (first | (refine SS_ ?_) | (refine Seq.callo false [] [(20,8)] (.sl 20 [] 1 0 (nums yJ4).length) ((20,liO (nums yJ4))::jH 4 (calm yB4) yJ4) 21 (n4) Tryz.func39 gK_ok subG.nil (by rfl) (by rfl) rfl rfl rfl rfl rfl (by rfl) rfl (by rfl) (by rfl) (by rfl) (by rfl) VW_ NI_ R_ (noFrL_ok NI_) BK_ ?_) | (refine Seq.callp true (s1) Tryz.func38 gK_ok subG.nil (by rfl) (by rfl) rfl rfl rfl rfl rfl (by rfl) rfl VW_ NI_ NI_ FR_ ?_) | (refine Seq.callo false [] [(22,8)] (.sl 22 [] 1 0 (texts yJ4).length) ((22,txO (texts yJ4))::jH 4 (calm yB4) yJ4) 23 (t4) Tryz.func16 gK_ok subG.nil (by rfl) (by rfl) rfl rfl rfl rfl rfl (by rfl) rfl (by rfl) (by rfl) (by rfl) (by rfl) VW_ NI_ R_ (noFrL_ok NI_) BK_ ?_) | (refine Seq.callp true (s2) Tryz.func15 gK_ok subG.nil (by rfl) (by rfl) rfl rfl rfl rfl rfl (by rfl) rfl VW_ NI_ NI_ FR_ ?_) | (refine Seq.callo false [] [(24,8)] (.sl 24 [] 1 0 (damaged yJ4).length) ((24,liO (damaged yJ4))::jH 4 (calm yB4) yJ4) 25 (d4) Tryz.func17 gK_ok subG.nil (by rfl) (by rfl) rfl rfl rfl rfl rfl (by rfl) rfl (by rfl) (by rfl) (by rfl) (by rfl) VW_ NI_ R_ (noFrL_ok NI_) BK_ ?_) | (refine Seq.callp true (s3) Tryz.func38 gK_ok subG.nil (by rfl) (by rfl) rfl rfl rfl rfl rfl (by rfl) rfl VW_ NI_ NI_ FR_ ?_) | (refine Seq.callo false [] [(26,8)] (.sl 26 [] 1 0 yJ4.bad.length) ((26,liO yJ4.bad)::jH 4 (calm yB4) yJ4) 27 (b4) Tryz.func40 gK_ok subG.nil (by rfl) (by rfl) rfl rfl rfl rfl rfl (by rfl) rfl (by rfl) (by rfl) (by rfl) (by rfl) VW_ NI_ R_ (noFrL_ok NI_) BK_ ?_) | (refine Seq.callp true (s4) Tryz.func38 gK_ok subG.nil (by rfl) (by rfl) rfl rfl rfl rfl rfl (by rfl) rfl VW_ NI_ NI_ FR_ ?_) | (refine Seq.callp false (c49) Tryz.func41 gK_ok subG.nil (by rfl) (by rfl) rfl rfl rfl rfl rfl (by rfl) rfl VW_ NI_ NI_ FR_ ?_) | fail)
  (refine retC_mk ([(0,.bool true)]) ([]) 28 (Sim.less [] (by rfl) R_ R_) (retQ_ok (by rfl) ([]) (fun i av h=>h) ⟨?_,?_⟩)) <;> rfl
end Go.Proofs.YtmbldnahcmkpgaaGreatDoor

namespace Go.Proofs.YtmbldnahcmkpgaaGreatDoor
open Go.V Go.RowKit Go.L Go.Lx Go.Jn Go.Dk
set_option maxRecDepth 20000
structure GoesI (n : Nat) (D : Disk) (J : Jr) (c : Nat) : Prop where
  good : GoodD n D
  P : D.P = []
  on : D.off = false
  left : D.left < 0
  shut : J.shut = false
  jok : JOkN n c J
  nc : J.next ≤ c + 1
  zeros : ∀ i,J.stop ≤ i→i < n→D.B.getD i [] = zs
  scan : ∀ Y,scan 0 ((D.B.take J.stop).map unp ++ Y) [] = scan 0 Y J.R
  lt : ∀ i ∈ J.R.map (·.1),i < J.next
variable {n : Nat} {D : Disk} {J : Jr} {c : Nat}
abbrev wornD (n : Nat) (W : WM) : Disk:=⟨List.replicate n zs,[],W,false,-1⟩
theorem good_worn0 {n : Nat} (h1 : 1 ≤ n) (h2 : n ≤ 4096) : GoodD n (wornD n []):=good_new (by omega) h2
end Go.Proofs.YtmbldnahcmkpgaaGreatDoor

namespace Go.Jn
structure JStep where
  K : Int
  I : Int
  Bit : Int
  Size : Int
  Fill : UInt8
  Pk : List Int
def jstZ : JStep:=⟨0,0,0,0,0,[]⟩
end Go.Jn
namespace Go.Proofs.YtmbldnahcmkpgaaGreatDoor
open Go.V Go.RowKit Go.L Go.Lx Go.Jn Go.Dk
set_option maxRecDepth 20000
set_option maxHeartbeats 4000000
abbrev stepA (o : JStep) : AV:=.pair (.int .i64 o.K) (.pair (.int .i64 o.I) (.pair (.int .i64 o.Bit) (.pair (.int .i64 o.Size) (.pair (.int .u8 (o.Fill.toNat : Nat)) (.pair (liV o.Pk) .nul)))))
abbrev stepsA (l : List JStep) : AV:=.rsl false l.length 6 (fun i=>stepA (l.getD i jstZ))
end Go.Proofs.YtmbldnahcmkpgaaGreatDoor
