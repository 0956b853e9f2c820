/- Journals: the program's and the reference's side by side; equality; the disks' other methods. JournalSectors. -/
import Derived.Test.YtmbldnahcmkpgaaGreatDoorBl
import Derived.Test.YtmbldnahcmkpgaaGreatDoorBi
import Derived.Test.YtmbldnahcmkpgaaGreatDoorFr
set_option linter.unusedSimpArgs false
set_option linter.unusedVariables false
namespace Go.Proofs.YtmbldnahcmkpgaaGreatDoor
open Go.V Go.RowKit Go.L Go.Lx Go.Jn Go.Dk
set_option maxRecDepth 20000
set_option maxHeartbeats 4000000
abbrev rjP (p a b c : Nat) (N B : List Int) (T : List Bs) (next : Int) (stop : Nat) (shut : Bool) : AV:=.pair (.ptr p []) (.pair (.sl a [] 1 0 N.length) (.pair (.sl c [] 1 0 T.length) (.pair (.sl b [] 1 0 B.length) (.pair (.int .i64 next) (.pair (.int .i64 (stop : Nat)) (.pair (.bool shut) .nul))))))
abbrev bD (n : Nat) (D : Disk) : Asc:=dR n D.B D.P D.W D.off D.left (secs n D.B D.P D.W) D.off (max (-1) D.left)
abbrev r5 (n : Nat) (D : Disk) : Asc:=[(4,rdA n 5 D.off (max (-1) D.left)),(5,secsA n (secs n D.B D.P D.W))]
abbrev jP (n : Nat) (D : Disk) (J : Jr) : Asc:=(6,jrA 0 7 8 9 (nums J) J.bad (texts J) J.next J.stop J.shut)::(7,liO (nums J))::(8,liO J.bad)::(9,txO (texts J))::dD n D
abbrev rP (n : Nat) (D : Disk) (J : Jr) : Asc:=(10,rjP 4 11 12 13 (nums J) J.bad (texts J) J.next J.stop J.shut)::(11,liO (nums J))::(12,liO J.bad)::(13,txO (texts J))::r5 n D
abbrev bH (n : Nat) (D : Disk) (J : Jr) : Asc:=(6,jrA 0 7 8 9 (nums J) J.bad (texts J) J.next J.stop J.shut)::(7,liO (nums J))::(8,liO J.bad)::(9,txO (texts J))::(10,rjP 4 11 12 13 (nums J) J.bad (texts J) J.next J.stop J.shut)::(11,liO (nums J))::(12,liO J.bad)::(13,txO (texts J))::bD n D
theorem jsame_ok {n c : Nat} {D : Disk} {J : Jr} (hn : n ≤ 4096) (hJ : JOkN n c J) (hc : c ≤ 1048576) : Ok Tryz.prog 13 [] (bH n D J) (.pair (.ptr 6 []) (.pair (.ptr 10 []) .nul)) (fun r h'=>r = .bool true∧h' = bH n D J):=by
  have j1:=hJ.n1;have j2:=hJ.n2;have j3:=hJ.stop;have j4:=hJ.len;have j5:=hJ.bad
  have l1 : (nums J).length = J.R.length:=nums_len
  have l2 : (texts J).length = J.R.length:=texts_len
  have l3 : (damaged J).length ≤ 4096:=by rw [damaged_eq];exact Nat.le_trans (dmgK_len _ _) (by omega)
  have c1:=jnums_ok (n:=n) (D:=D) (J:=J) (by omega)
  have c2:=jtexts_ok (n:=n) (D:=D) (J:=J) (by omega)
  have c3:=jdamaged_ok (n:=n) (D:=D) (J:=J) (by omega) j1 j2
  have c4:=rdamaged_ok (n:=n) (D:=D) (J:=J) (left:=max (-1) D.left) (by omega) j1 j2
  have c5:=jbad_ok (n:=n) (D:=D) (J:=J) (by omega)
  have c6:=jnext_ok (n:=n) (D:=D) (J:=J)
  have c7:=jroom_ok (n:=n) (D:=D) (J:=J) j3 hn
  have c8:=rroom_ok (n:=n) (D:=D) (N:=nums J) (B:=J.bad) (T:=texts J) (next:=J.next) (shut:=J.shut) j3 hn
  have q1:=sameI_ok (nums J) (nums J) (by omega) (by omega)
  have q2:=sameTx_ok (texts J) (texts J) (by omega) (by omega)
  have q3:=sameI_ok (damaged J) (damaged J) (by omega) (by omega)
  have q4:=sameI_ok J.bad J.bad (by omega) (by omega)
  rw [decide_eq_true rfl] at q1 q2 q3 q4
  generalize damaged J = dm at *
  refine Ok.of_vcC tt_ok Tryz.func13 rfl rfl (by show 2 ≤ _;decide) 14 (hlt_ok (by rfl)) fun c0=>?_
  repeat' (first | (refine SS_ ?_) | (refine VC.drawm (id:=3) [(0,0),(1,1),(2,0),(3,4),(4,12),(5,28),(6,63),(7,127),(8,255),(9,511),(10,255),(11,1279),(12,3327),(13,7423),(14,16383),(15,32767),(16,65535),(17,131071),(18,262143),(19,131071),(20,1048575),(21,2097151),(22,4194303),(23,8388607),(24,16777215),(25,33554431),(26,16777215),(27,83886079),(28,218103807),(29,486539263),(30,1073741823),(31,2147483647),(32,4294967295),(33,8589934591),(34,17179869183),(35,8589934591),(36,42949672959),(37,111669149695),(38,249108103167),(39,549755813887),(40,1099511627775),(41,2199023255551),(42,4398046511103),(43,8796093022207),(44,4398046511103),(45,35184372088831),(46,70368744177663),(47,140737488355327)] [48] (by rfl) (by kernel_rfl) (by rfl) ?_) | (refine DSeq.callr false [(4,6),(5,7),(6,8),(7,9)] [(6,4),(7,5),(8,6),(9,7),(14,8)] (.sl 14 [] 1 0 (nums J).length) ([(14,liO (nums J))]) ((14,liO (nums J))::jP n D J) 15 (c1) Tryz.func39 GOk.nil subG.nil (by rfl) (fastE (by rfl)) (fastH (by rfl)) (by rfl) (by rfl) rfl rfl rfl rfl rfl (by rfl) (by rfl) (by rfl) (by rfl) (by rfl) (by repeat (first | exact trivial | refine ⟨rfl,?_⟩)) (by rfl) (by rfl) (by rfl) VW_ NI_ R_ (noFrL_ok NI_) BK_ ?_) | (refine DSeq.callp true (q1) Tryz.func38 GOk.nil subG.nil (by rfl) (fastE (by rfl)) (fastH (by rfl)) (by rfl) (by rfl) rfl rfl rfl rfl rfl (by rfl) (by rfl) VW_ NI_ NI_ FR_ ?_) | (refine DSeq.callr false [(4,6),(5,7),(6,8),(7,9)] [(6,4),(7,5),(8,6),(9,7),(15,8)] (.sl 15 [] 1 0 (texts J).length) ([(15,txO (texts J))]) ((15,txO (texts J))::jP n D J) 16 (c2) Tryz.func16 GOk.nil subG.nil (by rfl) (fastE (by rfl)) (fastH (by rfl)) (by rfl) (by rfl) rfl rfl rfl rfl rfl (by rfl) (by rfl) (by rfl) (by rfl) (by rfl) (by repeat (first | exact trivial | refine ⟨rfl,?_⟩)) (by rfl) (by rfl) (by rfl) VW_ NI_ R_ (noFrL_ok NI_) BK_ ?_) | (refine DSeq.callp true (q2) Tryz.func15 GOk.nil subG.nil (by rfl) (fastE (by rfl)) (fastH (by rfl)) (by rfl) (by rfl) rfl rfl rfl rfl rfl (by rfl) (by rfl) VW_ NI_ NI_ FR_ ?_) | (refine DSeq.callr false [(4,6),(5,7),(6,8),(7,9)] [(6,4),(7,5),(8,6),(9,7),(16,8)] (.sl 16 [] 1 0 dm.length) ([(16,liO dm)]) ((16,liO dm)::jP n D J) 17 (c3) Tryz.func17 GOk.nil subG.nil (by rfl) (fastE (by rfl)) (fastH (by rfl)) (by rfl) (by rfl) rfl rfl rfl rfl rfl (by rfl) (by rfl) (by rfl) (by rfl) (by rfl) (by repeat (first | exact trivial | refine ⟨rfl,?_⟩)) (by rfl) (by rfl) (by rfl) VW_ NI_ R_ (noFrL_ok NI_) BK_ ?_) | (refine DSeq.callr false [(0,4),(1,5),(2,10),(3,11),(4,12),(5,13)] [(4,0),(5,1),(10,2),(11,3),(12,4),(13,5),(17,6)] (.sl 17 [] 1 0 dm.length) ([(17,liO dm)]) ((17,liO dm)::rP n D J) 18 (c4) Tryz.func57 GOk.nil subG.nil (by rfl) (fastE (by rfl)) (fastH (by rfl)) (by rfl) (by rfl) rfl rfl rfl rfl rfl (by rfl) (by rfl) (by rfl) (by rfl) (by rfl) (by repeat (first | exact trivial | refine ⟨rfl,?_⟩)) (by rfl) (by rfl) (by rfl) VW_ NI_ R_ (noFrL_ok NI_) BK_ ?_) | (refine DSeq.callp true (q3) Tryz.func38 GOk.nil subG.nil (by rfl) (fastE (by rfl)) (fastH (by rfl)) (by rfl) (by rfl) rfl rfl rfl rfl rfl (by rfl) (by rfl) VW_ NI_ NI_ FR_ ?_) | (refine DSeq.callr false [(4,6),(5,7),(6,8),(7,9)] [(6,4),(7,5),(8,6),(9,7),(18,8)] (.sl 18 [] 1 0 J.bad.length) ([(18,liO J.bad)]) ((18,liO J.bad)::jP n D J) 19 (c5) Tryz.func40 GOk.nil subG.nil (by rfl) (fastE (by rfl)) (fastH (by rfl)) (by rfl) (by rfl) rfl rfl rfl rfl rfl (by rfl) (by rfl) (by rfl) (by rfl) (by rfl) (by repeat (first | exact trivial | refine ⟨rfl,?_⟩)) (by rfl) (by rfl) (by rfl) VW_ NI_ R_ (noFrL_ok NI_) BK_ ?_) | (refine DSeq.callp true (q4) Tryz.func38 GOk.nil subG.nil (by rfl) (fastE (by rfl)) (fastH (by rfl)) (by rfl) (by rfl) rfl rfl rfl rfl rfl (by rfl) (by rfl) VW_ NI_ NI_ FR_ ?_) | (refine DSeq.callr false [(4,6),(5,7),(6,8),(7,9)] [(6,4),(7,5),(8,6),(9,7)] (.int .i64 J.next) ([]) (jP n D J) 19 (c6) Tryz.func33 GOk.nil subG.nil (by rfl) (fastE (by rfl)) (fastH (by rfl)) (by rfl) (by rfl) rfl rfl rfl rfl rfl (by rfl) (by rfl) (by rfl) (by rfl) (by rfl) (by repeat (first | exact trivial | refine ⟨rfl,?_⟩)) (by rfl) (by rfl) (by rfl) VW_ NI_ R_ (noFrL_ok NI_) BK_ ?_) | (refine DSeq.callr false [(4,6),(5,7),(6,8),(7,9)] [(6,4),(7,5),(8,6),(9,7)] (.int .i64 ((n : Int) - J.stop)) ([]) (jP n D J) 19 (c7) Tryz.func34 GOk.nil subG.nil (by rfl) (fastE (by rfl)) (fastH (by rfl)) (by rfl) (by rfl) rfl rfl rfl rfl rfl (by rfl) (by rfl) (by rfl) (by rfl) (by rfl) (by repeat (first | exact trivial | refine ⟨rfl,?_⟩)) (by rfl) (by rfl) (by rfl) VW_ NI_ R_ (noFrL_ok NI_) BK_ ?_) | (refine DSeq.callr false [(0,4),(1,5),(2,10),(3,11),(4,12),(5,13)] [(4,0),(5,1),(10,2),(11,3),(12,4),(13,5)] (.int .i64 ((n : Int) - J.stop)) ([]) (rP n D J) 19 (c8) Tryz.func58 GOk.nil subG.nil (by rfl) (fastE (by rfl)) (fastH (by rfl)) (by rfl) (by rfl) rfl rfl rfl rfl rfl (by rfl) (by rfl) (by rfl) (by rfl) (by rfl) (by repeat (first | exact trivial | refine ⟨rfl,?_⟩)) (by rfl) (by rfl) (by rfl) VW_ NI_ R_ (noFrL_ok NI_) BK_ ?_) | (refine VC.litF (by rfl) LFA_ ?_) | (refine DD_ ?_) | (refine DSeq.lit2 (by rfl) (by rfl) (by rfl) LT2_ (by rfl) ?_) | fail)
  (refine retC_mk ([(4,.bool (decide ((n : Int) - (J.stop : Nat) = (n : Int) - (J.stop : Nat))))]) (bH n D J) 19 (Sim.less [] (by rfl) R_ R_) (retQ_ok (by rfl) (bH n D J) (fun i av h=>h) ⟨?_,?_⟩)) <;> first | exact congrArg AV.bool (decide_eq_true rfl) | rfl
def fewB (l : List JStep) : Bool:=decide ((∀ x ∈ l,x.Pk.length ≤ 200)∧l.length ≤ 30)
theorem few_ok (l : List JStep) (hl : l.length ≤ 9223372036854775807) : Ok Tryz.prog 24 [] [] (.pair (stepsA l) .nul) (fun r h'=>r = .bool (fewB l)∧h' = []):=by
  unfold fewB
  refine Ok.of_vcC tt_ok Tryz.func24 rfl rfl (by show 1 ≤ _;decide) 0 (hlt_ok (by rfl)) fun c0=>?_
  repeat' (first | (refine SS_ ?_) | fail)
  refine VC.loop (fun k : Nat=>⟨[(7,.int .i64 (k : Nat)),(6,.int .i64 l.length),(5,stepsA l),(0,stepsA l)],[],[],0⟩) (fun k=>k ≤ l.length∧∀ j,j < k→(l.getD j jstZ).Pk.length ≤ 200) (fun k=>l.length - k) 0 ⟨by omega,fun j hj=>absurd hj (Nat.not_lt_zero _)⟩ (Sim.less [] (by rfl) R_ R_) fun k hk=>?_
  obtain ⟨hk,hr⟩:=hk
  by_cases hkl : k < l.length
  · have eo : l.getD ((k : Nat) : Int).toNat jstZ = l.getD k jstZ:=by rw [Int.toNat_natCast]
    by_cases hp : (l.getD ((k : Nat) : Int).toNat jstZ).Pk.length ≤ 200
    · repeat' (first | (refine SS_ ?_) | (refine VC.litT (by rfl) LTR_ ?_) | (refine VC.litF (by rfl) LFA_ ?_) | fail)
      refine ⟨k + 1,⟨by omega,fun j hj=>?_⟩,by omega,by exact (Sim.less [] (by rfl) R_ R_)⟩
      rcases Nat.lt_or_ge j k with h | h
      · exact hr j h
      · obtain rfl : j = k:=by omega
        rw [← eo];exact hp
    · repeat' (first | (refine SS_ ?_) | (refine VC.litT (by rfl) LTR_ ?_) | fail)
      rw [decide_eq_false fun h=>hp (by rw [eo];exact h.1 _ (Go.Lx.getD_mem hkl))]
      (refine retC_mk ([(2,.bool false)]) ([]) 0 (Sim.less [] (by rfl) R_ R_) (retQ_ok (by rfl) ([]) (fun i av h=>h) ⟨?_,?_⟩)) <;> rfl
  · repeat' (first | (refine SS_ ?_) | (refine VC.litF (by rfl) LFA_ ?_) | fail)
    rw [show decide ((∀ x ∈ l,x.Pk.length ≤ 200)∧l.length ≤ 30) = decide ((l.length : Int) ≤ 30) from decide_eq_decide.2 ⟨fun h=>by omega,fun h=>⟨fun x hx=>by
      obtain ⟨i,hi,e⟩:=List.mem_iff_getElem.1 hx
      have:=hr i (by omega)
      rw [List.getD_eq_getElem?_getD,List.getElem?_eq_getElem hi,Option.getD_some,e] at this
      exact this,by omega⟩⟩]
    (refine retC_mk ([(2,.bool (decide ((l.length : Int) ≤ 30)))]) ([]) 0 (Sim.less [] (by rfl) R_ R_) (retQ_ok (by rfl) ([]) (fun i av h=>h) ⟨?_,?_⟩)) <;> rfl
section
variable {n : Nat} {D : Disk}
abbrev opT (i : Int) : DOp:=⟨4,i,0,[],[]⟩
abbrev opM (p : List Int) : DOp:=⟨5,0,0,[],p⟩
abbrev opR (i b : Int) : DOp:=⟨6,i,b,[],[]⟩
abbrev opX (i : Int) : DOp:=⟨7,i,0,[],[]⟩
theorem opT_ok {i : Int} (h : i64B i) : DOpOk (opT i):=⟨(⟨by decide,by decide⟩ : i64B 4),h,(⟨by decide,by decide⟩ : i64B 0),Nat.zero_le _,Nat.zero_le _⟩
theorem opM_ok {p : List Int} (h : p.length ≤ 9223372036854775807) : DOpOk (opM p):=⟨(⟨by decide,by decide⟩ : i64B 5),(⟨by decide,by decide⟩ : i64B 0),(⟨by decide,by decide⟩ : i64B 0),Nat.zero_le _,h⟩
theorem opR_ok {i b : Int} (h : i64B i) (hb : i64B b) : DOpOk (opR i b):=⟨(⟨by decide,by decide⟩ : i64B 6),h,hb,Nat.zero_le _,Nat.zero_le _⟩
theorem opX_ok {i : Int} (h : i64B i) : DOpOk (opX i):=⟨(⟨by decide,by decide⟩ : i64B 7),h,(⟨by decide,by decide⟩ : i64B 0),Nat.zero_le _,Nat.zero_le _⟩
theorem ptrip_ok (i : Int) : Ok Tryz.prog 18 [] (dD n D) (.pair (.ptr 0 []) (.pair (.int .i64 i) .nul)) (fun r h'=>r = .tup .nul∧h' = dD n (doD n D (opT i))):=trip_ok i
theorem prtrip_ok (i : Int) : Ok Tryz.prog 26 [] (rDD n D) (.pair (.ptr 0 []) (.pair (.int .i64 i) .nul)) (fun r h'=>r = .tup .nul∧h' = rDD n (doD n D (opT i))):=rtrip_ok i
theorem pmount_ok (h : GoodD n D) (p : List Int) (hp : p.length ≤ 9223372036854775807) : Ok Tryz.prog 21 [] (dD n D) (.pair (.ptr 0 []) (.pair (.rsl false p.length 1 (fun i=>.int .i64 (p.getD i 0))) .nul)) (fun r h'=>r = .tup .nul∧h' = dD n (doD n D (opM p))):=mount_ok h p hp
theorem prmount_ok (h : GoodD n D) (p : List Int) (hp : p.length ≤ 9223372036854775807) : Ok Tryz.prog 27 [] (rDD n D) (.pair (.ptr 0 []) (.pair (.rsl false p.length 1 (fun i=>.int .i64 (p.getD i 0))) .nul)) (fun r h'=>r = .tup .nul∧h' = rDD n (doD n D (opM p))):=by
  have c:=rmount_ok (off:=D.off) (left:=max (-1) D.left) (rgood_secs h) h.n1 p hp
  rw [mount_secs h] at c
  exact c
theorem prot_ok (h : GoodD n D) (i b : Int) : Ok Tryz.prog 28 [] (dD n D) (.pair (.ptr 0 []) (.pair (.int .i64 i) (.pair (.int .i64 b) .nul))) (fun r h'=>r = .int .i64 (doE n D (opR i b))∧h' = dD n (doD n D (opR i b))):=rot_ok i b h.len h.b64
theorem prrot_ok (h : GoodD n D) (I Bit : Int) : Ok Tryz.prog 29 [] (rDD n D) (.pair (.ptr 0 []) (.pair (.int .i64 I) (.pair (.int .i64 Bit) .nul))) (fun r h'=>r = .int .i64 (doE n D (opR I Bit))∧h' = rDD n (doD n D (opR I Bit))):=by
  obtain ⟨B,P,W,off,left⟩:=D
  have h : Good n B P W left:=h
  have c:=rrot_ok (n:=n) (S:=secs n B P W) (off:=off) (left:=max (-1) left) (rgood_secs h) h.n1 I Bit
  show Ok _ _ _ _ _ (fun r h'=>r = .int .i64 (if rotBad n I Bit then 1 else 0)∧h' = rD n ⟨if rotBad n I Bit then B else B.set I.toNat (flip (B.getD I.toNat []) Bit.toNat),P,W,off,left⟩ (max (-1) left))
  by_cases hb : rotBad n I Bit
  · rw [if_pos hb,if_pos hb] at c
    rw [if_pos hb,if_pos hb];exact c
  · have hb':=hb
    unfold rotBad bad at hb'
    rw [if_neg hb,if_neg hb,rot_secs (by omega) (by omega) h.len,secs_get (by omega)] at c
    rw [if_neg hb,if_neg hb];exact c
theorem pwear_ok (i : Int) : Ok Tryz.prog 30 [] (dD n D) (.pair (.ptr 0 []) (.pair (.int .i64 i) .nul)) (fun r h'=>r = .int .i64 (doE n D (opX i))∧h' = dD n (doD n D (opX i))):=wear_ok i
theorem prwear_ok (I : Int) : Ok Tryz.prog 31 [] (rDD n D) (.pair (.ptr 0 []) (.pair (.int .i64 I) .nul)) (fun r h'=>r = .int .i64 (doE n D (opX I))∧h' = rDD n (doD n D (opX I))):=by
  obtain ⟨B,P,W,off,left⟩:=D
  have c:=rwear_ok (n:=n) (S:=secs n B P W) (off:=off) (left:=max (-1) left) secs_len I
  show Ok _ _ _ _ _ (fun r h'=>r = .int .i64 (if bad n I then 1 else 0)∧h' = rD n ⟨B,P,if bad n I then W else mSet W I true,off,left⟩ (max (-1) left))
  by_cases hb : bad n I
  · rw [if_pos hb,if_pos hb] at c
    rw [if_pos hb,if_pos hb];exact c
  · rw [if_neg hb,if_neg hb,wear_secs (by unfold bad at hb;omega) (by unfold bad at hb;omega)] at c
    rw [if_neg hb,if_neg hb];exact c
end
end Go.Proofs.YtmbldnahcmkpgaaGreatDoor

namespace Go.V
open Go.RowKit Go.L
structure FivePart (P : Program) (t : TypeId) : Prop where
  und : ∃ f0 f1 f2 f3 f4 : Field,P.underlying t = some (.struct #[f0,f1,f2,f3,f4])∧(f0.name ≠ "_" ∧ f1.name ≠ "_" ∧ f2.name ≠ "_" ∧ f3.name ≠ "_" ∧ f4.name ≠ "_")∧(f0.offset = 0∧f1.offset = 1∧f2.offset = 2∧f3.offset = 3∧f4.offset = 4) ∧
    P.underlying f0.type = some (.int .i64)∧P.underlying f1.type = some (.int .i64)∧P.underlying f2.type = some (.int .i64)∧P.underlying f3.type = some .string∧P.underlying f4.type = some .bool
  st : P.stoodInHeld t = false
  gd : P.eqGuardType P.depth t = false
variable {P : Program} {t yt ty : TypeId} {g e h : Asc} {x y : Operand} {d : Option Tmp} {pos : String} {af : Array Edge} {gd : Option (Nat × Bool)}
end Go.V
namespace Go.Proofs.YtmbldnahcmkpgaaGreatDoor
open Go.V Go.RowKit Go.L Go.Lx Go.Jn Go.Dk
set_option maxRecDepth 20000
set_option maxHeartbeats 4000000
def gA : Asc:=[(2,u32A 64 Sha.kTab),(0,u32A 64 Sha.kTab)]
theorem gA_ok : GOk gA:=by
  intro x v h
  unfold gA at h
  rw [get?_cons] at h
  split at h
  · cases h;exact ⟨fun i hi=>trivial,fun i hi=>trivial⟩
  · rw [get?_cons] at h
    split at h
    · cases h;exact ⟨fun i hi=>trivial,fun i hi=>trivial⟩
    · cases h
theorem gK_sub : subG gK gA:=by
  intro x v h
  unfold gK at h
  rw [get?_cons] at h
  split at h
  · rename_i e;subst e;cases h;rfl
  · cases h
theorem gR_sub : subG gR gA:=by
  intro x v h
  unfold gR at h
  rw [get?_cons] at h
  split at h
  · rename_i e;subst e;cases h;rfl
  · cases h
end Go.Proofs.YtmbldnahcmkpgaaGreatDoor
