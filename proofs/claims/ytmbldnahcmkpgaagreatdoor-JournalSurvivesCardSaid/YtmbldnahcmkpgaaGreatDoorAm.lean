/- Journals: Numbers, Texts, Damaged, Bad, Next, Room. Journals: Damaged. Journals: write. -/
import Derived.Test.YtmbldnahcmkpgaaGreatDoorAj
set_option linter.unusedSimpArgs false
set_option linter.unusedVariables false
namespace Go.Proofs.YtmbldnahcmkpgaaGreatDoor
open Go.V Go.RowKit Go.L Go.Lx Go.Jn Go.Dk
set_option maxRecDepth 10000
set_option maxHeartbeats 4000000
variable {n : Nat} {D : Disk} {J : Jr}
theorem jnext_ok : Ok Tryz.prog 33 [] (jH n D J) (.pair (.ptr 4 []) .nul) (fun r h'=>r = .int .i64 J.next∧h' = jH n D J):=by
  refine Ok.of_vcC tt_ok Tryz.func33 rfl rfl (by show 1 ≤ _;decide) 8 (hlt_ok (by rfl)) fun c0=>?_
  repeat' (first | (refine SS_ ?_) | fail)
  (refine retC_mk ([(2,.int .i64 J.next)]) (jH n D J) 8 (Sim.less [] (by rfl) R_ R_) (retQ_ok (by rfl) (jH n D J) (fun i av h=>h) ⟨?_,?_⟩)) <;> rfl
theorem jroom_ok (hs : J.stop ≤ n) (hn : n ≤ 4096) : Ok Tryz.prog 34 [] (jH n D J) (.pair (.ptr 4 []) .nul) (fun r h'=>r = .int .i64 ((n : Int) - J.stop)∧h' = jH n D J):=by
  have cl:=len_ok' (n:=n) (B:=D.B) (P:=D.P) (W:=D.W) (off:=D.off) (left:=D.left)
  refine Ok.of_vcC tt_ok Tryz.func34 rfl rfl (by show 1 ≤ _;decide) 8 (hlt_ok (by rfl)) fun c0=>?_
  repeat' (first | (refine SS_ ?_) | (refine DSeq.callr false [] [] (.int .i64 n) ([]) (dD n D) 8 (cl) Tryz.func46 GOk.nil subG.nil (by rfl) (fastE (by rfl)) (fastH (by rfl)) (by rfl) (by rfl) rfl rfl rfl rfl rfl (by rfl) (by rfl) (by rfl) (by rfl) (by rfl) (by repeat (first | exact trivial | refine ⟨rfl,?_⟩)) (by rfl) (by rfl) (by rfl) VW_ NI_ R_ (noFrL_ok NI_) BK_ ?_) | (refine VC.drawm (id:=1) [(0,0),(1,1),(2,3),(3,7),(4,15),(5,0),(6,32),(7,96),(8,224),(9,511)] [10] (by rfl) (by kernel_rfl) (by rfl) ?_) | (refine DD_ ?_) | fail)
  (refine retC_mk ([(2,.int .i64 ((n : Int) - J.stop))]) (jH n D J) 8 (Sim.less [] (by rfl) R_ R_) (retQ_ok (by rfl) (jH n D J) (fun i av h=>h) ⟨?_,?_⟩)) <;> rfl
theorem cloneT_ok (l : List Bs) (hl : l.length ≤ 1048576) : Ok Tryz.prog 59 [] [] (.pair (txV l) .nul) (fun r h'=>r = .sl 0 [] 1 0 l.length∧h' = [(0,txO l)]):=by
  refine Ok.of_vcC tt_ok Tryz.func59 rfl rfl (by show 1 ≤ _;decide) 0 (hlt_ok (by rfl)) fun c0=>?_
  repeat' (first | (refine SS_ ?_) | (refine Seq.slnilx tt_ok (by rfl) (by rfl) (by rfl) (by rfl) (by rfl) (by rfl) (by rfl) (fun hz=>?_) ?_) | (refine VC.litT (by rfl) LTR_ ?_) | (refine VC.litF (by rfl) LFA_ ?_) | fail)
  · refine retC_mk [(2,.sl 0 [] 1 0 l.length)] [(0,txO l)] 1 (fun a w h=>(?_ : ∀ a w,Sim _ _ a w→Sim _ _ a w) a w (Sim.ghost 2 1 (fun i=>.str (l.getD i [])) (by rfl) (.inl rfl) a w h)) (retQ_ok (by rfl) [(0,txO l)] (fun i av h=>h) ⟨?_,?_⟩)
    · rw [hz]
      exact (Sim.less [] (by rfl) R_ R_)
    · rfl
    · rfl
  · (refine retC_mk ([(2,.sl 0 [] 1 0 l.length)]) ([(0,txO l)]) 1 (Sim.less [] (by rfl) R_ R_) (retQ_ok (by rfl) ([(0,txO l)]) (fun i av h=>h) ⟨?_,?_⟩)) <;> rfl
theorem jnums_ok (hl : (nums J).length ≤ 1048576) : Ok Tryz.prog 39 [] (jH n D J) (.pair (.ptr 4 []) .nul) (fun r h'=>r = .sl 8 [] 1 0 (nums J).length∧h' = (8,liO (nums J))::jH n D J):=by
  have c:=cloneI_ok (nums J) hl
  refine Ok.of_vcC tt_ok Tryz.func39 rfl rfl (by show 1 ≤ _;decide) 8 (hlt_ok (by rfl)) fun c0=>?_
  repeat' (first | (refine SS_ ?_) | (refine Seq.callo true [] [(8,0)] (.sl 8 [] 1 0 (nums J).length) ([(8,liO (nums J))]) 9 (c) Tryz.func73 GOk.nil subG.nil (by rfl) (by rfl) rfl rfl rfl rfl rfl (by rfl) rfl (by rfl) (by rfl) (by rfl) (by rfl) VW_ NI_ R_ (noFrL_ok NI_) BK_ ?_) | fail)
  (refine retC_mk ([(2,.sl 8 [] 1 0 (nums J).length)]) ((8,liO (nums J))::jH n D J) 9 (Sim.less [] (by rfl) R_ R_) (retQ_ok (by rfl) ((8,liO (nums J))::jH n D J) (fun i av h=>h) ⟨?_,?_⟩)) <;> rfl
theorem jbad_ok (hl : J.bad.length ≤ 1048576) : Ok Tryz.prog 40 [] (jH n D J) (.pair (.ptr 4 []) .nul) (fun r h'=>r = .sl 8 [] 1 0 J.bad.length∧h' = (8,liO J.bad)::jH n D J):=by
  have c:=cloneI_ok J.bad hl
  refine Ok.of_vcC tt_ok Tryz.func40 rfl rfl (by show 1 ≤ _;decide) 8 (hlt_ok (by rfl)) fun c0=>?_
  repeat' (first | (refine SS_ ?_) | (refine Seq.callo true [] [(8,0)] (.sl 8 [] 1 0 J.bad.length) ([(8,liO J.bad)]) 9 (c) Tryz.func73 GOk.nil subG.nil (by rfl) (by rfl) rfl rfl rfl rfl rfl (by rfl) rfl (by rfl) (by rfl) (by rfl) (by rfl) VW_ NI_ R_ (noFrL_ok NI_) BK_ ?_) | fail)
  (refine retC_mk ([(2,.sl 8 [] 1 0 J.bad.length)]) ((8,liO J.bad)::jH n D J) 9 (Sim.less [] (by rfl) R_ R_) (retQ_ok (by rfl) ((8,liO J.bad)::jH n D J) (fun i av h=>h) ⟨?_,?_⟩)) <;> rfl
theorem jtexts_ok (hl : (texts J).length ≤ 1048576) : Ok Tryz.prog 16 [] (jH n D J) (.pair (.ptr 4 []) .nul) (fun r h'=>r = .sl 8 [] 1 0 (texts J).length∧h' = (8,txO (texts J))::jH n D J):=by
  have c:=cloneT_ok (texts J) hl
  refine Ok.of_vcC tt_ok Tryz.func16 rfl rfl (by show 1 ≤ _;decide) 8 (hlt_ok (by rfl)) fun c0=>?_
  repeat' (first | (refine SS_ ?_) | (refine Seq.callo true [] [(8,0)] (.sl 8 [] 1 0 (texts J).length) ([(8,txO (texts J))]) 9 (c) Tryz.func59 GOk.nil subG.nil (by rfl) (by rfl) rfl rfl rfl rfl rfl (by rfl) rfl (by rfl) (by rfl) (by rfl) (by rfl) VW_ NI_ R_ (noFrL_ok NI_) BK_ ?_) | fail)
  (refine retC_mk ([(2,.sl 8 [] 1 0 (texts J).length)]) ((8,txO (texts J))::jH n D J) 9 (Sim.less [] (by rfl) R_ R_) (retQ_ok (by rfl) ((8,txO (texts J))::jH n D J) (fun i av h=>h) ⟨?_,?_⟩)) <;> rfl
end Go.Proofs.YtmbldnahcmkpgaaGreatDoor

namespace Go.Jn
open Go.V (mFind mSet)
def thM (l : List Int) : Go.Dk.WM:=l.foldl (fun m x=>mSet m x true) []
theorem thM_snoc (l : List Int) (x : Int) : thM (l ++ [x]) = mSet (thM l) x true:=by unfold thM;rw [List.foldl_append];rfl
theorem mFind_fold : ∀ (l : List Int) (m : Go.Dk.WM) (x : Int),mFind (l.foldl (fun m x=>mSet m x true) m) x = if x ∈ l then some true else mFind m x
  | [],m,x=>by rw [if_neg (by simp)];rfl
  | y :: r,m,x=>by
    show mFind (r.foldl _ (mSet m y true)) x = _
    rw [mFind_fold r,Go.Dk.mFind_mSet]
    by_cases h1 : x ∈ r
    · rw [if_pos h1,if_pos (List.mem_cons_of_mem _ h1)]
    · rw [if_neg h1]
      by_cases h2 : y = x
      · rw [if_pos h2,if_pos (by rw [h2];exact List.mem_cons_self)]
      · rw [if_neg h2,if_neg]
        rintro h3
        rcases List.mem_cons.1 h3 with h4 | h4
        · exact h2 h4.symm
        · exact h1 h4
theorem mFind_thM (l : List Int) (x : Int) : mFind (thM l) x = if l.contains x = true then some true else none:=by
  unfold thM
  rw [mFind_fold]
  by_cases h : x ∈ l
  · rw [if_pos h,if_pos (List.contains_iff_mem.2 h)]
  · rw [if_neg h,if_neg (fun h2=>h (List.contains_iff_mem.1 h2))];rfl
theorem isW_thM (l : List Int) (x : Int) : Go.Dk.isW (thM l) x = l.contains x:=by
  unfold Go.Dk.isW
  rw [mFind_thM]
  cases l.contains x <;> rfl
def dmgK (l : List Int) (k : Nat) : List Int:=((List.range k).map fun i : Nat=>((i : Int) + 1)).filter fun n=>!l.contains n
theorem dmgK_succ (l : List Int) (k : Nat) : dmgK l (k + 1) = if l.contains ((k : Int) + 1) = true then dmgK l k else dmgK l k ++ [(k : Int) + 1]:=by
  unfold dmgK
  rw [List.range_succ,List.map_append,List.filter_append]
  show _ ++ List.filter _ [(k : Int) + 1] = _
  cases h : l.contains ((k : Int) + 1) with
  | true=>rw [List.filter_cons_of_neg (by simpa using h)];simp
  | false=>rw [List.filter_cons_of_pos (by simpa using h)];simp
theorem damaged_eq (J : Jr) : damaged J = dmgK (nums J) (J.next - 1).toNat:=rfl
theorem dmgK_len (l : List Int) (k : Nat) : (dmgK l k).length ≤ k:=by
  unfold dmgK
  refine Nat.le_trans (List.length_filter_le _ _) ?_
  simp
end Go.Jn
namespace Go.Proofs.YtmbldnahcmkpgaaGreatDoor
open Go.V Go.RowKit Go.L Go.Lx Go.Jn Go.Dk
set_option maxRecDepth 10000
set_option maxHeartbeats 4000000
variable {n : Nat} {D : Disk} {J : Jr}
theorem jdamaged_ok (hl : (nums J).length ≤ 1048576) (hx1 : 1 ≤ J.next) (hx2 : J.next ≤ 4097) : Ok Tryz.prog 17 [] (jH n D J) (.pair (.ptr 4 []) .nul) (fun r h'=>r = .sl 8 [] 1 0 (damaged J).length∧h' = (8,liO (damaged J))::jH n D J):=by
  rw [damaged_eq]
  refine Ok.of_vcC tt_ok Tryz.func17 rfl rfl (by show 1 ≤ _;decide) 8 (hlt_ok (by rfl)) fun c0=>?_
  repeat' (first | (refine SS_ ?_) | fail)
  refine VC.loop (fun k : Nat=>⟨[(14,.int .i64 (k : Nat)),(13,.int .i64 ((nums J).length : Nat)),(12,.sl 5 [] 1 0 (nums J).length),(3,.mp 8),(0,.ptr 4 [])],(8,wornA (thM ((nums J).take k)))::jH n D J,[],9⟩) (fun k=>k ≤ (nums J).length) (fun k=>(nums J).length - k) 0 (by omega) (by
    (refine Sim.less [] (by rfl) ?_ ?_ <;> (repeat' (first | (exact EnvLe.nil) | (exact HeapLe.nil) | (with_reducible apply EnvLe.cons) | (with_reducible apply HeapLe.cons) | ((with_reducible refine RelA.int ?_;first | (refine Keep.mk ?_;first | with_reducible rfl | omega | decide) | skip)) | (exact rfl) | (exact ⟨rfl,rfl⟩) | ((with_reducible refine RelA.arr ?_;intro i hi)) | (with_reducible refine RelA.pair ?_ ?_) | ((refine RelA.arr ?_;intro i hi)) | (exact NoId.self (by first | ((repeat' (first | exact trivial | exact rfl | refine NoFr.bif ?_ ?_ | refine NoId.bif ?_ ?_ | refine AllFr.bif ?_ ?_ | (intro i hi) | (refine ⟨?_,?_⟩) | (intro e;cases e;done)));done) | fail)) | fail)) <;> (try with_reducible refine Keep.mk ?_))
    exact ⟨_,_,rfl,fun i hi=>absurd hi (Nat.not_lt_zero _)⟩) fun k hk=>?_
  by_cases hkl : k < (nums J).length
  · have hts : (nums J).take (k + 1) = (nums J).take k ++ [(nums J).getD k 0]:=take_snoc hkl
    have hT : thM ((nums J).take (k + 1)) = mSet (thM ((nums J).take k)) ((nums J).getD (0 + ((k : Int)).toNat) 0) true:=by rw [hts,thM_snoc,Nat.zero_add,Int.toNat_natCast]
    generalize hM : thM ((nums J).take k) = M at *
    repeat' (first | (refine SS_ ?_) | (refine Seq.eff (mapUpdate_ok (K:=KI) (V:=VB) (u:=true) (l:=M) (k:=(nums J).getD (0 + ((k : Int)).toNat) 0) u_worn keyI (by rfl) (by rfl) (by rfl) (by rfl)) (by rfl) (by rfl) ?_) | (refine VC.litT (by rfl) LTR_ ?_) | fail)
    refine ⟨k + 1,by omega,by omega,?_⟩
    rw [hT]
    exact (Sim.less [] (by rfl) R_ R_)
  · obtain rfl : k = (nums J).length:=by omega
    rw [List.take_length]
    generalize hM : thM (nums J) = M at *
    repeat' (first | (refine SS_ ?_) | (refine VC.litF (by rfl) LFA_ ?_) | fail)
    refine VC.conv (Sim.ghost 6 1 (fun _=>.nul) (by rfl) (.inl rfl)) ?_
    refine VC.loop (fun k : Nat=>⟨[(7,.int .i64 ((k + 1 : Nat) : Int)),(6,.sl 9 [] 1 0 (dmgK (nums J) k).length),(3,.mp 8),(0,.ptr 4 [])],(9,liO (dmgK (nums J) k))::(8,wornA M)::jH n D J,[],10⟩) (fun k=>k ≤ (J.next - 1).toNat) (fun k=>(J.next - 1).toNat - k) 0 (by omega) (by
      (refine Sim.less [] (by rfl) ?_ ?_ <;> (repeat' (first | (exact EnvLe.nil) | (exact HeapLe.nil) | (with_reducible apply EnvLe.cons) | (with_reducible apply HeapLe.cons) | ((with_reducible refine RelA.int ?_;first | (refine Keep.mk ?_;first | with_reducible rfl | omega | decide) | skip)) | (exact rfl) | (exact ⟨rfl,rfl⟩) | ((with_reducible refine RelA.arr ?_;intro i hi)) | (with_reducible refine RelA.pair ?_ ?_) | ((refine RelA.arr ?_;intro i hi)) | (exact NoId.self (by first | ((repeat' (first | exact trivial | exact rfl | refine NoFr.bif ?_ ?_ | refine NoId.bif ?_ ?_ | refine AllFr.bif ?_ ?_ | (intro i hi) | (refine ⟨?_,?_⟩) | (intro e;cases e;done)));done) | fail)) | fail)) <;> (try with_reducible refine Keep.mk ?_))
      exact absurd (by assumption) (Nat.not_lt_zero _)) fun k hk=>?_
    by_cases hkn : k < (J.next - 1).toNat
    · have hs:=dmgK_succ (nums J) k
      have hdl:=dmgK_len (nums J) k
      have hW:=isW_thM (nums J) ((k : Int) + 1)
      rw [hM] at hW
      by_cases hc : (nums J).contains ((k : Int) + 1) = true
      · rw [hc] at hW
        rw [if_pos hc] at hs
        repeat' (first | (refine SS_ ?_) | (refine Seq.val (lookW_ok (W:=M) (i:=((k + 1 : Nat) : Int)) (q:=true) (by rfl) (by rfl) (by rfl) hW) (by rfl) (by rfl) ?_) | (refine VC.litT (by rfl) LTR_ ?_) | (refine VC.litF (by rfl) LFA_ ?_) | fail)
        refine ⟨k + 1,by omega,by omega,?_⟩
        rw [hs]
        exact (Sim.less [] (by rfl) R_ R_)
      · have hc : (nums J).contains ((k : Int) + 1) = false:=by simpa using hc
        rw [hc] at hW
        rw [if_neg (by rw [hc];decide)] at hs
        repeat' (first | (refine SS_ ?_) | (refine Seq.val (lookW_ok (W:=M) (i:=((k + 1 : Nat) : Int)) (q:=false) (by rfl) (by rfl) (by rfl) hW) (by rfl) (by rfl) ?_) | (refine VC.litT (by rfl) LTR_ ?_) | fail)
        refine ⟨k + 1,by omega,by omega,?_⟩
        unfold liO
        rw [hs,List.length_append,List.length_singleton]
        (refine Sim.less [(9,11)] (by rfl) ?_ ?_ <;> (repeat' (first | (exact EnvLe.nil) | (exact HeapLe.nil) | (with_reducible apply EnvLe.cons) | (with_reducible apply HeapLe.cons) | ((with_reducible refine RelA.int ?_;first | (refine Keep.mk ?_;first | with_reducible rfl | omega | decide) | skip)) | (exact rfl) | (exact ⟨rfl,rfl⟩) | ((with_reducible refine RelA.arr ?_;intro i hi)) | (with_reducible refine RelA.pair ?_ ?_) | ((refine RelA.arr ?_;intro i hi)) | (exact NoId.self (by first | ((repeat' (first | exact trivial | exact rfl | refine NoFr.bif ?_ ?_ | refine NoId.bif ?_ ?_ | refine AllFr.bif ?_ ?_ | (intro i hi) | (refine ⟨?_,?_⟩) | (intro e;cases e;done)));done) | fail)) | fail)) <;> (try with_reducible refine Keep.mk ?_))
        exact rel_snocG (G:=AV.int .i64) (fun e=>NI_) (by assumption)
    · obtain rfl : k = (J.next - 1).toNat:=by omega
      repeat' (first | (refine SS_ ?_) | (refine VC.litF (by rfl) LFA_ ?_) | fail)
      refine retC_conv' (s':=⟨[(2,.sl 8 [] 1 0 (dmgK (nums J) (J.next - 1).toNat).length)],(8,liO (dmgK (nums J) (J.next - 1).toNat))::jH n D J,[],12⟩) (Sim.less [(8,9)] (by rfl) R_ R_) ?_
      (refine retC_mk ([(2,.sl 8 [] 1 0 (dmgK (nums J) (J.next - 1).toNat).length)]) ((8,liO (dmgK (nums J) (J.next - 1).toNat))::jH n D J) 12 (Sim.less [] (by rfl) R_ R_) (retQ_ok (by rfl) ((8,liO (dmgK (nums J) (J.next - 1).toNat))::jH n D J) (fun i av h=>h) ⟨?_,?_⟩)) <;> rfl
end Go.Proofs.YtmbldnahcmkpgaaGreatDoor

namespace Go.Proofs.YtmbldnahcmkpgaaGreatDoor
open Go.V Go.RowKit Go.L Go.Lx Go.Jn Go.Dk
set_option maxRecDepth 10000
set_option maxHeartbeats 4000000
def opW (i : Int) (s : Bs) : DOp:=⟨1,i,0,s,[]⟩
def opF : DOp:=⟨3,0,0,[],[]⟩
def wr1 (n : Nat) (D : Disk) (i : Int) (s : Bs) : Disk:=doD n D (opW i s)
def wr1E (n : Nat) (D : Disk) (i : Int) (s : Bs) : Int:=doE n D (opW i s)
def wrK (n : Nat) (D : Disk) (a : Nat) (l : List Bs) : Nat→Disk × Int
  | 0=>(D,0)
  | k + 1=>if (wrK n D a l k).2 = 0 then (wr1 n (wrK n D a l k).1 ((a + k : Nat) : Int) (l.getD k []),wr1E n (wrK n D a l k).1 ((a + k : Nat) : Int) (l.getD k [])) else wrK n D a l k
def sameK (n : Nat) (D : Disk) (a : Nat) (l : List Bs) : Nat→Bool
  | 0=>true
  | k + 1=>sameK n D a l k && decide (l.getD k [] = rdS n D.off D.B D.P ((a + k : Nat) : Int))
def wfr (n : Nat) (D : Disk) (a : Nat) (l : List Bs) : Disk × (Int × Bool) :=
  if (wrK n D a l l.length).2 ≠ 0 then ((wrK n D a l l.length).1,((wrK n D a l l.length).2,false))
  else if doE n (wrK n D a l l.length).1 opF ≠ 0 then (doD n (wrK n D a l l.length).1 opF,(doE n (wrK n D a l l.length).1 opF,false))
  else (doD n (wrK n D a l l.length).1 opF,(0,sameK n (doD n (wrK n D a l l.length).1 opF) a l l.length))
theorem wrK_stop {n : Nat} {D : Disk} {a : Nat} {l : List Bs} {j : Nat} (h : (wrK n D a l j).2 ≠ 0) : ∀ m,wrK n D a l (j + m) = wrK n D a l j
  | 0=>rfl
  | m + 1=>by
    have ih:=wrK_stop h m
    rw [← Nat.add_assoc,wrK,ih,if_neg h]
theorem opW_ok {i : Int} {s : Bs} (hi : i64B i) (hs : s.length ≤ 9223372036854775807) : DOpOk (opW i s):=⟨⟨(by decide : (-9223372036854775808 : Int) ≤ 1),(by decide : (1 : Int) ≤ 9223372036854775807)⟩,hi,⟨(by decide : (-9223372036854775808 : Int) ≤ 0),(by decide : (0 : Int) ≤ 9223372036854775807)⟩,hs,(by decide : (0 : Nat) ≤ 9223372036854775807)⟩
theorem opF_ok : DOpOk opF:=⟨⟨by decide,by decide⟩,⟨by decide,by decide⟩,⟨by decide,by decide⟩,by decide,by decide⟩
theorem textS_64 {s : Bs} (h : s.length = 64) : textS s = s:=by unfold textS;rw [if_pos (.inr (by omega))]
theorem cw_ok {n : Nat} {D : Disk} (hG : GoodD n D) (i : Int) (s : Bs) (hs : s.length = 64) : Ok Tryz.prog 9 [] (dD n D) (.pair (.ptr 0 []) (.pair (.int .i64 i) (.pair (.str s) .nul))) (fun r h'=>r = .int .i64 (wr1E n D i s)∧h' = dD n (wr1 n D i s)):=by
  have h:=write_ok (n:=n) (B:=D.B) (P:=D.P) (W:=D.W) (off:=D.off) hG.l64 i s
  unfold wr1 wr1E doD doE opW
  rw [if_pos rfl,if_pos rfl,textS_64 hs]
  exact h
theorem doD_F (n : Nat) (D : Disk) : doD n D opF = if D.off = true then D else if D.left = 0 then ⟨D.B,D.P,D.W,true,D.left⟩ else ⟨(allB [] D.B D.P D.W).1,(allB [] D.B D.P D.W).2,D.W,D.off,stpL D.left⟩:=rfl
theorem doE_F (n : Nat) (D : Disk) : doE n D opF = if D.off = true then 20 else if D.left = 0 then 20 else 0:=rfl
theorem cf_ok {n : Nat} {D : Disk} (hG : GoodD n D) : Ok Tryz.prog 80 [] (dD n D) (.pair (.ptr 0 []) .nul) (fun r h'=>r = .int .i64 (doE n D opF)∧h' = dD n (doD n D opF)):=by
  rw [doD_F,doE_F]
  cases ho : D.off with
  | true =>
    have h:=flush_off (n:=n) (B:=D.B) (P:=D.P) (W:=D.W) (off:=D.off) (left:=D.left) ho
    exact h
  | false =>
    by_cases hl : D.left = 0
    · have h:=flush_trip (n:=n) (B:=D.B) (P:=D.P) (W:=D.W) (off:=D.off) (left:=D.left) hG.n0 ho hl
      rw [if_neg (show ¬ false = true by decide),if_neg (show ¬ false = true by decide),if_pos hl,if_pos hl]
      exact h
    · have h:=flush_go (n:=n) (B:=D.B) (P:=D.P) (W:=D.W) (off:=D.off) (left:=D.left) hG ho hl
      rw [if_neg (show ¬ false = true by decide),if_neg (show ¬ false = true by decide),if_neg hl,if_neg hl]
      rw [ho] at h
      unfold dD
      rw [ho]
      exact h
theorem good_wrK {n : Nat} {D : Disk} (hG : GoodD n D) {a : Nat} {l : List Bs} (ha : a + l.length ≤ n) (hl : ∀ s ∈ l,s.length = 64) : ∀ k,k ≤ l.length→GoodD n (wrK n D a l k).1
  | 0,_=>hG
  | k + 1,hk=>by
    have ih:=good_wrK hG ha hl k (by omega)
    have hn:=hG.n1
    rw [wrK]
    split
    · exact good_do ih (opW_ok ⟨by omega,by omega⟩ (by rw [hl _ (Go.Lx.getD_mem (by omega))];decide))
    · exact ih
theorem on_F {n : Nat} {D : Disk} (h : doE n D opF = 0) : (doD n D opF).off = false:=by
  rw [doE_F] at h
  cases ho : D.off with
  | true=>rw [ho,if_pos rfl] at h;cases h
  | false =>
    rw [doD_F,ho,if_neg (show ¬ false = true by decide)]
    split
    · rename_i hl
      rw [ho,if_neg (show ¬ false = true by decide),if_pos hl] at h;cases h
    · rfl
abbrev jL (a c n : Nat) (D : Disk) (N B : List Int) (T : List Bs) (next : Int) (stop : Nat) (shut : Bool) : Asc:=(4,jrA 0 a 6 c N B T next stop shut)::(a,liO N)::(6,liO B)::(c,txO T)::dD n D
variable {n : Nat} {D : Disk} {N B : List Int} {T : List Bs} {next : Int} {stop : Nat} {shut : Bool}
theorem jroomL_ok (hs : stop ≤ n) (hn : n ≤ 4096) : Ok Tryz.prog 34 [] (jL 5 7 n D N B T next stop shut) (.pair (.ptr 4 []) .nul) (fun r h'=>r = .int .i64 ((n : Int) - stop)∧h' = jL 5 7 n D N B T next stop shut):=by
  have cl:=len_ok' (n:=n) (B:=D.B) (P:=D.P) (W:=D.W) (off:=D.off) (left:=D.left)
  refine Ok.of_vcC tt_ok Tryz.func34 rfl rfl (by show 1 ≤ _;decide) 8 (hlt_ok (by rfl)) fun c0=>?_
  repeat' (first | (refine SS_ ?_) | (refine DSeq.callr false [] [] (.int .i64 n) ([]) (dD n D) 8 (cl) Tryz.func46 GOk.nil subG.nil (by rfl) (fastE (by rfl)) (fastH (by rfl)) (by rfl) (by rfl) rfl rfl rfl rfl rfl (by rfl) (by rfl) (by rfl) (by rfl) (by rfl) (by repeat (first | exact trivial | refine ⟨rfl,?_⟩)) (by rfl) (by rfl) (by rfl) VW_ NI_ R_ (noFrL_ok NI_) BK_ ?_) | (refine VC.drawm (id:=1) [(0,0),(1,1),(2,3),(3,7),(4,15),(5,0),(6,32),(7,96),(8,224),(9,511)] [10] (by rfl) (by kernel_rfl) (by rfl) ?_) | (refine DD_ ?_) | fail)
  (refine retC_mk ([(2,.int .i64 ((n : Int) - stop))]) (jL 5 7 n D N B T next stop shut) 8 (Sim.less [] (by rfl) R_ R_) (retQ_ok (by rfl) (jL 5 7 n D N B T next stop shut) (fun i av h=>h) ⟨?_,?_⟩)) <;> rfl
theorem jwrite_ok (hG : GoodD n D) {a : Nat} {l : List Bs} (ha : a + l.length ≤ n) (hl : ∀ s ∈ l,s.length = 64) : Ok Tryz.prog 60 [] (jL 5 7 n D N B T next stop shut) (.pair (.ptr 4 []) (.pair (.int .i64 (a : Nat)) (.pair (txV l) .nul)))
    (fun r h'=>r = .tup (.pair (.int .i64 (wfr n D a l).2.1) (.pair (.bool (wfr n D a l).2.2) .nul))∧h' = jL 5 7 n (wfr n D a l).1 N B T next stop shut):=by
  have hn:=hG.n1
  have gK:=good_wrK hG ha hl
  have hls:=fun k (h : k < l.length)=>hl _ (Go.Lx.getD_mem (d:=[]) h)
  obtain ⟨D',e',b',hw⟩ : ∃ D' e' b',wfr n D a l = (D',(e',b')):=⟨_,_,_,rfl⟩
  rw [hw]
  unfold wfr at hw
  show Ok _ _ _ _ _ (fun r h'=>r = .tup (.pair (.int .i64 e') (.pair (.bool b') .nul))∧h' = jL 5 7 n D' N B T next stop shut)
  refine Ok.of_vcC tt_ok Tryz.func60 rfl rfl (by show 3 ≤ _;decide) 8 (hlt_ok (by rfl)) fun c0=>?_
  repeat' (first | (refine SS_ ?_) | fail)
  refine VC.loop (fun k : Nat=>⟨[(19,.int .i64 (k : Nat)),(18,.int .i64 (l.length : Nat)),(17,txV l),(0,.ptr 4 []),(1,.int .i64 (a : Nat)),(2,txV l)],jL 5 7 n (wrK n D a l k).1 N B T next stop shut,[],8⟩) (fun k=>k ≤ l.length∧(wrK n D a l k).2 = 0) (fun k=>l.length - k) 0 ⟨by omega,rfl⟩ (by
    show ∀ a_1 w,_→Sim _ ⟨_,jL 5 7 n D N B T next stop shut,_,_⟩ a_1 w
    exact (Sim.less [] (by rfl) R_ R_)) fun k hk=>?_
  obtain ⟨hk1,hk2⟩:=hk
  by_cases hkl : k < l.length
  · have gk:=gK k (by omega)
    have e1 : wrK n D a l (k + 1) = (wr1 n (wrK n D a l k).1 ((a + k : Nat) : Int) (l.getD k []),wr1E n (wrK n D a l k).1 ((a + k : Nat) : Int) (l.getD k [])):=by rw [wrK,if_pos hk2]
    have hst:=fun h=>wrK_stop (n:=n) (D:=D) (a:=a) (l:=l) (j:=k + 1) h (l.length - (k + 1))
    rw [show k + 1 + (l.length - (k + 1)) = l.length by omega,e1] at hst
    have cw:=cw_ok gk ((a + k : Nat) : Int) (l.getD k []) (hls k hkl)
    generalize hD1 : (wrK n D a l k).1 = D1 at *
    generalize hD2 : wr1 n D1 ((a + k : Nat) : Int) (l.getD k []) = D2 at *
    generalize hE2 : wr1E n D1 ((a + k : Nat) : Int) (l.getD k []) = E2 at *
    repeat' (first | (refine SS_ ?_) | (refine Seq.callo false [] [] (.int .i64 E2) (dD n D2) 8 (cw) Tryz.func9 GOk.nil subG.nil (by rfl) (by rfl) rfl rfl rfl rfl rfl (by rfl) rfl (by rfl) (by rfl) (by rfl) (by rfl) VW_ NI_ R_ (noFrL_ok NI_) BK_ ?_) | (refine VC.litT (by rfl) LTR_ ?_) | (refine VC.cond (by rfl) (fun hb=>?_) (fun hb=>?_) <;> (fail_if_success (with_reducible have:=litT_ hb)) <;> (fail_if_success (with_reducible have:=litF_ hb)) <;> (try simp only [HB_] at hb) <;> (try (exfalso;first | omega | (cases hb;done)))) | fail)
    · have hb : E2 ≠ 0:=hb
      rw [hst hb,if_pos hb] at hw
      have hq : D' = D2∧e' = E2∧b' = false:=by cases hw;exact ⟨rfl,rfl,rfl⟩
      rw [hq.1,hq.2.1,hq.2.2]
      (refine retC_mk ([(6,.int .i64 E2),(7,.bool false)]) (jL 5 7 n D2 N B T next stop shut) 8 (Sim.less [] (by rfl) R_ R_) (retQ_ok (by rfl) (jL 5 7 n D2 N B T next stop shut) (fun i av h=>h) ⟨?_,?_⟩)) <;> rfl
    · have hb : E2 = 0:=by omega
      refine ⟨k + 1,⟨by omega,by rw [e1];exact hb⟩,by omega,?_⟩
      rw [e1]
      exact (Sim.less [] (by rfl) R_ R_)
  · obtain rfl : k = l.length:=by omega
    rw [if_neg (fun h=>h hk2)] at hw
    have gk:=gK l.length (Nat.le_refl _)
    generalize hD1 : (wrK n D a l l.length).1 = D1 at *
    have cf:=cf_ok gk
    have hof:=on_F (n:=n) (D:=D1)
    have hg3 : GoodD n (doD n D1 opF):=good_do gk opF_ok
    generalize hD3 : doD n D1 opF = D3 at *
    generalize hE3 : doE n D1 opF = E3 at *
    repeat' (first | (refine SS_ ?_) | (refine Seq.callo false [] [] (.int .i64 E3) (dD n D3) 8 (cf) Tryz.func80 GOk.nil subG.nil (by rfl) (by rfl) rfl rfl rfl rfl rfl (by rfl) rfl (by rfl) (by rfl) (by rfl) (by rfl) VW_ NI_ R_ (noFrL_ok NI_) BK_ ?_) | (refine VC.litF (by rfl) LFA_ ?_) | (refine VC.cond (by rfl) (fun hb=>?_) (fun hb=>?_) <;> (fail_if_success (with_reducible have:=litT_ hb)) <;> (fail_if_success (with_reducible have:=litF_ hb)) <;> (try simp only [HB_] at hb) <;> (try (exfalso;first | omega | (cases hb;done)))) | fail)
    · have hb : E3 ≠ 0:=hb
      rw [if_pos hb] at hw
      have hq : D' = D3∧e' = E3∧b' = false:=by cases hw;exact ⟨rfl,rfl,rfl⟩
      rw [hq.1,hq.2.1,hq.2.2]
      (refine retC_mk ([(6,.int .i64 E3),(7,.bool false)]) (jL 5 7 n D3 N B T next stop shut) 8 (Sim.less [] (by rfl) R_ R_) (retQ_ok (by rfl) (jL 5 7 n D3 N B T next stop shut) (fun i av h=>h) ⟨?_,?_⟩)) <;> rfl
    have hb : E3 = 0:=by omega
    rw [if_neg (fun h=>h hb)] at hw
    have hq : D' = D3∧e' = 0∧b' = sameK n D3 a l l.length:=by cases hw;exact ⟨rfl,rfl,rfl⟩
    rw [hq.1,hq.2.1,hq.2.2]
    have hon:=hof hb
    refine VC.loop (fun k : Nat=>⟨[(47,.int .i64 (k : Nat)),(46,.int .i64 (l.length : Nat)),(45,txV l),(12,.bool (sameK n D3 a l k)),(0,.ptr 4 []),(1,.int .i64 (a : Nat)),(2,txV l)],jL 5 7 n D3 N B T next stop shut,[],8⟩) (fun k=>k ≤ l.length) (fun k=>l.length - k) 0 (Nat.zero_le _) (Sim.less [] (by rfl) R_ R_) fun k hk=>?_
    by_cases hkl : k < l.length
    · have rd:=read_ok (n:=n) (B:=D3.B) (P:=D3.P) (W:=D3.W) (off:=D3.off) (left:=D3.left) ((a + k : Nat) : Int) hg3.len hg3.b64 hg3.p64
      rw [show chk n D3.off ((a + k : Nat) : Int) = 0 by rw [hon];exact chk_in (by omega)] at rd
      have hsk : sameK n D3 a l (k + 1) = (sameK n D3 a l k && decide (l.getD k [] = rdS n D3.off D3.B D3.P ((a + k : Nat) : Int))):=rfl
      generalize hS : rdS n D3.off D3.B D3.P ((a + k : Nat) : Int) = S at *
      have hlk : l.getD ((k : Int)).toNat [] = l.getD k []:=by rw [Int.toNat_natCast]
      cases hs : sameK n D3 a l k with
      | true =>
        rw [hs] at hsk
        repeat' (first | (refine SS_ ?_) | (refine Seq.callo false [] [] (.tup (.pair (.str S) (.pair (.int .i64 0) .nul))) (dD n D3) 8 (rd) Tryz.func47 GOk.nil subG.nil (by rfl) (by rfl) rfl rfl rfl rfl rfl (by rfl) rfl (by rfl) (by rfl) (by rfl) (by rfl) VW_ NI_ R_ (noFrL_ok NI_) BK_ ?_) | (refine VC.litT (by rfl) LTR_ ?_) | (refine VC.litF (by rfl) LFA_ ?_) | fail)
        refine ⟨k + 1,by omega,by omega,?_⟩
        rw [hsk,Bool.true_and]
        exact (Sim.less [] (by rfl) R_ R_)
      | false =>
        rw [hs] at hsk
        repeat' (first | (refine SS_ ?_) | (refine Seq.callo false [] [] (.tup (.pair (.str S) (.pair (.int .i64 0) .nul))) (dD n D3) 8 (rd) Tryz.func47 GOk.nil subG.nil (by rfl) (by rfl) rfl rfl rfl rfl rfl (by rfl) rfl (by rfl) (by rfl) (by rfl) (by rfl) VW_ NI_ R_ (noFrL_ok NI_) BK_ ?_) | (refine VC.litT (by rfl) LTR_ ?_) | (refine VC.litF (by rfl) LFA_ ?_) | fail)
        refine ⟨k + 1,by omega,by omega,?_⟩
        rw [hsk,Bool.false_and]
        exact (Sim.less [] (by rfl) R_ R_)
    · obtain rfl : k = l.length:=by omega
      repeat' (first | (refine SS_ ?_) | (refine VC.litF (by rfl) LFA_ ?_) | fail)
      (refine retC_mk ([(6,.int .i64 0),(7,.bool (sameK n D3 a l l.length))]) (jL 5 7 n D3 N B T next stop shut) 8 (Sim.less [] (by rfl) R_ R_) (retQ_ok (by rfl) (jL 5 7 n D3 N B T next stop shut) (fun i av h=>h) ⟨?_,?_⟩)) <;> rfl
end Go.Proofs.YtmbldnahcmkpgaaGreatDoor
