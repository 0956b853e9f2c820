/- JournalSurvives. -/
import Derived.Test.YtmbldnahcmkpgaaGreatDoorBp
import Derived.Test.YtmbldnahcmkpgaaGreatDoorBr
set_option linter.unusedSimpArgs false
set_option linter.unusedVariables false
namespace Go.Proofs.YtmbldnahcmkpgaaGreatDoor
open Go.V Go.RowKit Go.L Go.Lx Go.Jn Go.Dk
set_option maxRecDepth 20000
set_option maxHeartbeats 4000000
theorem rel_snocF {A : Nat→Prop} {σ : Nat→Nat} {T : List Bs} {t : Bs} {F K : Nat→AV} {i : Nat} (hi : i < T.length + 1) (hF : ∀ i,F i = .str (T.getD i [])) (hK : K 0 = .str t) : RelA A σ (.str ((T ++ [t]).getD i [])) (joinF T.length F K i):=by
  rcases Nat.lt_or_ge i T.length with h1 | h1
  · rw [joinF_lt h1,app_lt h1,hF];exact NoId.self NI_
  · obtain rfl : i = T.length:=by omega
    rw [joinF_ge (Nat.le_refl _),app_eq,Nat.sub_self,hK];exact NoId.self NI_
theorem dmg_fil {T : List Bs} : damaged (filJ T) = []:=by
  rw [damaged_eq]
  unfold dmgK
  rw [List.filter_eq_nil_iff]
  intro i hi
  obtain ⟨k,hk,rfl⟩:=List.mem_map.1 hi
  have hk:=List.mem_range.1 hk
  have hk : k < ((T.length : Int) + 1 - 1).toNat:=hk
  have : ((k : Int) + 1) ∈ nums (filJ T):=(allR_nums T 1 _).2 ⟨by omega,by omega⟩
  simp only [List.contains_iff_mem.2 this]
  decide
theorem survives_out (s : Int) (l : List JStep) (x : JStep) (tr : UInt8) (picks : List Int) (hl : l.length ≤ 9223372036854775807) (hp : picks.length ≤ 9223372036854775807) (h : 200 < s ∨ 12 < l.length ∨ 200 < picks.length ∨ s < 1) : Ok Tryz.prog 4 gA [] (.pair (.int .i64 s) (.pair (stepsA l) (.pair (stepA x) (.pair (.int .u8 (tr.toNat : Nat)) (.pair (liV picks) .nul))))) (fun r h'=>r = .bool true∧h' = []):=by
  have csan:=sanity_ok
  by_cases h1 : 200 < s
  · refine Ok.of_vcC tt_ok Tryz.func4 rfl rfl (by show 5 ≤ _;decide) 0 (hlt_ok (by rfl)) fun c0=>?_
    repeat' (first | (refine SS_ ?_) | (refine Seq.callp false (csan) Tryz.func6 gA_ok gK_sub (by rfl) (by rfl) rfl rfl rfl rfl rfl (by rfl) rfl VW_ NI_ NI_ FR_ ?_) | (refine Seq.lit (by rfl) (by rfl) LT2_ ?_) | (refine VC.litT (by rfl) LTR_ ?_) | fail)
    (refine retC_mk ([(10,.bool true)]) ([]) 1 (Sim.less [] (by rfl) R_ R_) (retQ_ok (by rfl) ([]) (fun i av h=>h) ⟨?_,?_⟩)) <;> rfl
  by_cases h2 : 12 < l.length
  · refine Ok.of_vcC tt_ok Tryz.func4 rfl rfl (by show 5 ≤ _;decide) 0 (hlt_ok (by rfl)) fun c0=>?_
    repeat' (first | (refine SS_ ?_) | (refine Seq.callp false (csan) Tryz.func6 gA_ok gK_sub (by rfl) (by rfl) rfl rfl rfl rfl rfl (by rfl) rfl VW_ NI_ NI_ FR_ ?_) | (refine Seq.lit (by rfl) (by rfl) LT2_ ?_) | (refine VC.litT (by rfl) LTR_ ?_) | fail)
    (refine retC_mk ([(10,.bool true)]) ([]) 1 (Sim.less [] (by rfl) R_ R_) (retQ_ok (by rfl) ([]) (fun i av h=>h) ⟨?_,?_⟩)) <;> rfl
  by_cases h3 : 200 < picks.length
  · refine Ok.of_vcC tt_ok Tryz.func4 rfl rfl (by show 5 ≤ _;decide) 0 (hlt_ok (by rfl)) fun c0=>?_
    repeat' (first | (refine SS_ ?_) | (refine Seq.callp false (csan) Tryz.func6 gA_ok gK_sub (by rfl) (by rfl) rfl rfl rfl rfl rfl (by rfl) rfl VW_ NI_ NI_ FR_ ?_) | (refine Seq.lit (by rfl) (by rfl) LT2_ ?_) | (refine VC.litT (by rfl) LTR_ ?_) | fail)
    (refine retC_mk ([(10,.bool true)]) ([]) 1 (Sim.less [] (by rfl) R_ R_) (retQ_ok (by rfl) ([]) (fun i av h=>h) ⟨?_,?_⟩)) <;> rfl
  have h4 : s < 1:=by omega
  have cf:=filled_no s h4 l
  refine Ok.of_vcC tt_ok Tryz.func4 rfl rfl (by show 5 ≤ _;decide) 0 (hlt_ok (by rfl)) fun c0=>?_
  repeat' (first | (refine SS_ ?_) | (refine Seq.callp false (csan) Tryz.func6 gA_ok gK_sub (by rfl) (by rfl) rfl rfl rfl rfl rfl (by rfl) rfl VW_ NI_ NI_ FR_ ?_) | (refine Seq.callp false (cf) Tryz.func14 gA_ok gK_sub (by rfl) (by rfl) rfl rfl rfl rfl rfl (by rfl) rfl VW_ NI_ NI_ FR_ ?_) | (refine Seq.lit (by rfl) (by rfl) LT2_ ?_) | (refine VC.litT (by rfl) LTR_ ?_) | (refine VC.litF (by rfl) LFA_ ?_) | fail)
  rw [show decide (s < 1) = true from decide_eq_true h4]
  (refine retC_mk ([(10,.bool true)]) ([]) 1 (Sim.less [] (by rfl) R_ R_) (retQ_ok (by rfl) ([]) (fun i av h=>h) ⟨?_,?_⟩)) <;> rfl
theorem survives_main (n : Nat) (h1 : 1 ≤ n) (h2 : n ≤ 200) (l : List JStep) (x : JStep) (tr : UInt8) (picks : List Int) (hl : l.length ≤ 12) (hp : picks.length ≤ 200) (hlo : ∀ o ∈ l,I64 o.Size) (hx : I64 x.Size) : Ok Tryz.prog 4 gA [] (.pair (.int .i64 (n : Nat)) (.pair (stepsA l) (.pair (stepA x) (.pair (.int .u8 (tr.toNat : Nat)) (.pair (liV picks) .nul))))) (fun r h'=>r = .bool true∧h' = []):=by
  have csan:=sanity_ok
  have cf:=filled_ok n h1 h2 l hl hlo
  have hF:=filI_filT h1 h2 l l.length (by omega)
  generalize filT n l l.length = T at *
  have hF : FilI n 12 T:={ hF with c:=by have:=hF.c;omega }
  have hTc:=hF.c
  have hG0:=hF.good (by omega)
  have co:=open_ok hG0 rfl
  have hJ0 : JOkN n n (filJ T):=by rw [← hF.opn (by omega)];exact opn_ok hF.len
  rw [rdL_calm hF.len,hF.opn (by omega)] at co
  have j4:=hJ0.len
  have eT : texts (filJ T) = T:=allR_texts T 1
  have c1:=jtexts_ok (n:=n) (D:=calm (filB n T)) (J:=filJ T) (by rw [eT];omega)
  have c2:=jdamaged_ok (n:=n) (D:=calm (filB n T)) (J:=filJ T) (by rw [nums_len];omega) hJ0.n1 hJ0.n2
  rw [dmg_fil] at c2
  have q1:=sameTx_ok (texts (filJ T)) T (by rw [eT];omega) (by omega)
  rw [decide_eq_true eT] at q1
  have ctr:=ptrip_ok (n:=n) (D:=calm (filB n T)) ((tr.toNat : Nat) : Int)
  have hG1:=good_do hG0 (o:=opT ((tr.toNat : Nat) : Int)) (opT_ok ⟨by omega,by have:=tr.toNat_lt;omega⟩)
  have eD1 : doD n (calm (filB n T)) (opT ((tr.toNat : Nat) : Int)) = ⟨filB n T,[],[],false,((tr.toNat : Nat) : Int)⟩:=rfl
  rw [eD1] at ctr hG1
  have ct:=rtext_ok x.K x.I x.Bit x.Size x.Fill x.Pk hx
  have htl:=stepText_le x.Size x.Fill
  generalize stepText x.Size x.Fill = t at *
  have ca:=append_ok hG1 hJ0 (by omega) t (by omega)
  have hG2:=app_good hG1 hJ0 t
  have hsv:=fun hg=>survives hF (by omega) (tr:=((tr.toNat : Nat) : Int)) t picks rfl hG1 hg
  generalize app n ⟨filB n T,[],[],false,((tr.toNat : Nat) : Int)⟩ (filJ T) t = R at *
  obtain ⟨⟨D2,J2⟩,m,e⟩:=R
  have hG2 : GoodD n D2:=hG2
  have cm:=pmount_ok hG2 picks (by omega)
  have hG3:=good_do hG2 (o:=opM picks) (opM_ok (by omega))
  have hB3 : (doD n D2 (opM picks)).B = mntB picks D2:=rfl
  have hP3 : (doD n D2 (opM picks)).P = []:=allB_nil hG2 picks
  have hO3 : (doD n D2 (opM picks)).off = false:=rfl
  generalize doD n D2 (opM picks) = D3 at *
  have ci:=image_ok (n:=n) (B:=D3.B) (P:=D3.P) (W:=D3.W) (off:=D3.off) (left:=D3.left) hG3.len hG3.b64 hG3.n1
  have hBl:=hG3.len
  have hTx : ∀ t' ∈ T ++ [t],t'.length ≤ 9223372036854775807:=fun t' h=>by
    rcases List.mem_append.1 h with q | q
    · have:=hF.t t' q;omega
    · rw [List.mem_singleton.1 q];omega
  have cg:=genuine_ok D3.B (T ++ [t]) (by omega) (by rw [List.length_append,List.length_singleton];omega) (fun s hs=>by have:=hG3.b64 s hs;omega) hTx
  unfold txV at cg
  rw [hBl] at cg
  have co3:=open_ok hG3 hO3
  rw [rdL_on2 hP3 hO3 hBl] at co3
  have hJ3 : JOkN n n (opn D3.B):=opn_ok hBl
  have hsv : genuB D3.B (T ++ [t]) = true→texts (opn D3.B) = T ++ [t] ∨ (e ≠ 0∧texts (opn D3.B) = T):=fun h=>by
    rw [hB3] at h ⊢
    exact hsv (@of_decide_eq_true _ (Classical.propDecidable _) h)
  have j43:=hJ3.len
  have c3:=jtexts_ok (n:=n) (D:=D3) (J:=opn D3.B) (by rw [texts_len];omega)
  have l3 : (texts (opn D3.B)).length ≤ n:=by rw [texts_len];omega
  have q2:=sameTx_ok (texts (opn D3.B)) (T ++ [t]) (by omega) (by rw [List.length_append,List.length_singleton];omega)
  have q3:=sameTx_ok (texts (opn D3.B)) T (by omega) (by omega)
  refine Ok.of_vcC tt_ok Tryz.func4 rfl rfl (by show 5 ≤ _;decide) 0 (hlt_ok (by rfl)) fun c0=>?_
  repeat' (first | (refine VC.conv (x:=.region 4 _ _) (s':=⟨[(13,.bool true),(12,.sl 4 [] 1 0 T.length),(11,.ptr 0 []),(7,.ptr 5 []),(4,liV picks),(3,.int .u8 (tr.toNat : Nat)),(0,.int .i64 (n : Nat))],(4,txO T)::(5,stepA x)::dD n (calm (filB n T)),gA,6⟩) (Sim.less [(0,1),(1,2),(2,3),(3,4),(4,5),(5,0)] (by rfl) R_ R_) (VC.region ?_)) | (first | with_reducible refine VC.seq ?_ | with_reducible refine VC.block ?_ | with_reducible refine VC.region ?_ | with_reducible refine VC.exit ?_ | with_reducible refine VC.ret ?_ | with_reducible refine VC.skip ?_ | with_reducible refine Seq.nil ?_ | with_reducible refine thenQ_n ?_ | with_reducible refine thenQ_r ?_ | with_reducible refine thenQ_e ?_ | with_reducible refine inQ_n ?_ | with_reducible refine inQ_r ?_ | with_reducible refine inQ_e ?_ | ((with_reducible refine inQ_o ?_ ?_);rfl) | (refine Seq.ev0 true tt_ok (by rfl) (by (first | exact trivial | exact u8_in _ rfl | exact u32_in _ rfl | ((with_reducible refine AllP.guard ?_);simp only [AllP,inI,fitV,maxK,inK,inbL,inb,List.append,List.cons_append,List.nil_append,true_and,and_true];first | done | omega))) rfl rfl rfl ?_) | (refine Seq.ev true tt_ok (by rfl) (by (first | exact trivial | exact u8_in _ rfl | exact u32_in _ rfl | ((with_reducible refine AllP.guard ?_);simp only [AllP,inI,fitV,maxK,inK,inbL,inb,List.append,List.cons_append,List.nil_append,true_and,and_true];first | done | omega))) rfl rfl rfl ?_) | (refine Seq.evn true tt_ok (by rfl) (by (first | exact trivial | exact u8_in _ rfl | exact u32_in _ rfl | ((with_reducible refine AllP.guard ?_);simp only [AllP,inI,fitV,maxK,inK,inbL,inb,List.append,List.cons_append,List.nil_append,true_and,and_true];first | done | omega))) rfl ?_) | (refine Seq.pass (by rfl) rfl ?_)) | (refine Seq.callo false [] [(1,0),(2,1),(3,2),(4,3),(5,8)] (.tup (.pair (.ptr 1 []) (.pair (.sl 5 [] 1 0 T.length) (.pair (.bool true) .nul)))) ((5,txO T)::[(1,dskA n 2 3 4 false (-1)),(2,blksA n (filB n T)),(3,pendA []),(4,wornA [])]) 6 (cf) Tryz.func14 gA_ok gK_sub (by rfl) (by rfl) rfl rfl rfl rfl rfl (by rfl) rfl (by rfl) (by rfl) (by rfl) (by rfl) VW_ NI_ R_ (noFrL_ok NI_) BK_ ?_) | (refine Seq.callo false [] [(6,4),(7,5),(8,6),(9,7)] (.tup (.pair (.ptr 6 []) (.pair (.int .i64 0) .nul))) (jP n (calm (filB n T)) (filJ T)) 10 (co) Tryz.func11 gA_ok gK_sub (by rfl) (by rfl) rfl rfl rfl rfl rfl (by rfl) rfl (by rfl) (by rfl) (by rfl) (by rfl) VW_ NI_ R_ (noFrL_ok NI_) BK_ ?_) | (refine Seq.callo false [(4,6),(5,7),(6,8),(7,9)] [(6,4),(7,5),(8,6),(9,7),(10,8)] (.sl 10 [] 1 0 (texts (filJ T)).length) ((10,txO (texts (filJ T)))::jP n (calm (filB n T)) (filJ T)) 11 (c1) Tryz.func16 gA_ok subG.nil (by rfl) (by rfl) rfl rfl rfl rfl rfl (by rfl) rfl (by rfl) (by rfl) (by rfl) (by rfl) VW_ NI_ R_ (noFrL_ok NI_) BK_ ?_) | (refine Seq.callp true (q1) Tryz.func15 gA_ok subG.nil (by rfl) (by rfl) rfl rfl rfl rfl rfl (by rfl) rfl VW_ NI_ NI_ FR_ ?_) | (refine Seq.callo false [(4,6),(5,7),(6,8),(7,9)] [(6,4),(7,5),(8,6),(9,7),(11,8)] (.sl 11 [] 1 0 0) ((11,liO [])::jP n (calm (filB n T)) (filJ T)) 12 (c2) Tryz.func17 gA_ok subG.nil (by rfl) (by rfl) rfl rfl rfl rfl rfl (by rfl) rfl (by rfl) (by rfl) (by rfl) (by rfl) VW_ NI_ R_ (noFrL_ok NI_) BK_ ?_) | (refine Seq.callo false [] [] (.tup .nul) (dD n ⟨filB n T,[],[],false,((tr.toNat : Nat) : Int)⟩) 12 (ctr) Tryz.func18 gA_ok subG.nil (by rfl) (by rfl) rfl rfl rfl rfl rfl (by rfl) rfl (by rfl) (by rfl) (by rfl) (by rfl) VW_ NI_ R_ (noFrL_ok NI_) BK_ ?_) | (refine Seq.callp false (ct) Tryz.func20 gA_ok subG.nil (by rfl) (by rfl) rfl rfl rfl rfl rfl (by rfl) rfl VW_ NI_ NI_ FR_ ?_) | (refine Seq.callo false [(4,6),(5,7),(6,8),(7,9)] [(6,4),(8,6),(12,8),(13,9)] (.tup (.pair (.int .i64 m) (.pair (.int .i64 e) .nul))) ((6,jrA 0 12 8 13 (nums J2) J2.bad (texts J2) J2.next J2.stop J2.shut)::(12,liO (nums J2))::(8,liO J2.bad)::(13,txO (texts J2))::dD n D2) 14 (ca) Tryz.func19 gA_ok gK_sub (by rfl) (by rfl) rfl rfl rfl rfl rfl (by rfl) rfl (by rfl) (by rfl) (by rfl) (by rfl) VW_ NI_ R_ (noFrL_ok NI_) BK_ ?_) | (refine Seq.callo false [] [] (.tup .nul) (dD n D3) 14 (cm) Tryz.func21 gA_ok subG.nil (by rfl) (by rfl) rfl rfl rfl rfl rfl (by rfl) rfl (by rfl) (by rfl) (by rfl) (by rfl) VW_ NI_ R_ (noFrL_ok NI_) BK_ ?_) | (refine VC.drawE (id:=12) [(0,0),(1,1),(2,0),(3,0),(5,0)] [5] 4 87 [6,7,8,9,10] (by rfl) (by kernel_rfl) (by rfl) (by rfl) (by rfl) (by rfl) ?_) | (refine DSeq.nil (late_endE true tt_ok (by rfl) (by rfl) (by rfl) (by (first | exact trivial | exact u8_in _ rfl | exact u32_in _ rfl | ((with_reducible refine AllP.guard ?_);simp only [AllP,inI,fitV,maxK,inK,inbL,inb,List.append,List.cons_append,List.nil_append,true_and,and_true];first | done | omega))) (by rfl) (by rfl) (by repeat (first | exact trivial | refine ⟨trivial,?_⟩ | refine ⟨lateX (by rfl) (late_evH true tt_ok (by rfl) (by rfl) (by rfl) (by rfl) (by (first | exact trivial | exact u8_in _ rfl | exact u32_in _ rfl | ((with_reducible refine AllP.guard ?_);simp only [AllP,inI,fitV,maxK,inK,inbL,inb,List.append,List.cons_append,List.nil_append,true_and,and_true];first | done | omega)))),?_⟩)) (by rfl) ?_)) | (refine DSeq.callr false [] [(14,4)] (.sl 14 [] 1 0 n) ([(14,strO n D3.B)]) ((14,strO n D3.B)::dD n D3) 15 (ci) Tryz.func23 gA_ok subG.nil (by rfl) (fastE (by rfl)) (fastH (by rfl)) (by rfl) (by rfl) rfl rfl rfl rfl rfl (by rfl) (by rfl) (by rfl) (by rfl) (by rfl) (by repeat (first | exact trivial | refine ⟨rfl,?_⟩)) (by rfl) (by rfl) (by rfl) VW_ NI_ R_ (noFrL_ok NI_) BK_ ?_) | (refine Seq.lit (by rfl) (by rfl) LT2_ ?_) | (refine VC.litF (by rfl) LFA_ ?_) | (refine DD_ ?_) | fail)
  refine Seq.conv (s':=⟨[(91,.sl 16 [] 1 0 (T ++ [t]).length),(84,.sl 14 [] 1 0 n),(17,.int .i64 e),(12,.sl 4 [] 1 0 T.length),(11,.ptr 0 []),(7,.ptr 5 [])],(16,txO (T ++ [t]))::(14,strO n D3.B)::(4,txO T)::(5,stepA x)::dD n D3,gA,18⟩) (by
    unfold txO
    rw [List.length_append,List.length_singleton]
    (refine Sim.less [(16,17)] (by rfl) ?_ ?_ <;> (repeat' (first | (exact EnvLe.nil) | (exact HeapLe.nil) | (with_reducible apply EnvLe.cons) | (with_reducible apply HeapLe.cons) | ((with_reducible refine RelA.int ?_;first | (refine Keep.mk ?_;first | with_reducible rfl | omega | decide) | skip)) | (exact rfl) | (exact ⟨rfl,rfl⟩) | ((with_reducible refine RelA.rsl ?_;intro i hi)) | ((with_reducible refine RelA.arr ?_;intro i hi)) | (with_reducible refine RelA.pair ?_ ?_) | ((refine RelA.arr ?_;intro i hi)) | (exact NoId.self (by first | ((repeat' (first | exact trivial | exact rfl | refine NoFr.bif ?_ ?_ | refine NoId.bif ?_ ?_ | refine AllFr.bif ?_ ?_ | (intro i hi) | (refine ⟨?_,?_⟩) | (intro e;cases e;done)));done) | fail)) | fail)) <;> (try with_reducible refine Keep.mk ?_))
    exact rel_snocF (by assumption) (fun i=>by rw [Nat.zero_add]) rfl) ?_
  cases hg : genuB D3.B (T ++ [t]) with
  | false =>
    rw [hg] at cg
    repeat' (first | (refine SS_ ?_) | (refine Seq.callp true (cg) Tryz.func22 gA_ok gR_sub (by rfl) (by rfl) rfl rfl rfl rfl rfl (by rfl) rfl VW_ NI_ NI_ FR_ ?_) | (refine Seq.callp false (csan) Tryz.func6 gA_ok gK_sub (by rfl) (by rfl) rfl rfl rfl rfl rfl (by rfl) rfl VW_ NI_ NI_ FR_ ?_) | (refine VC.litT (by rfl) LTR_ ?_) | fail)
    (refine retC_mk ([(10,.bool true)]) ([]) 18 (Sim.less [] (by rfl) R_ R_) (retQ_ok (by rfl) ([]) (fun i av h=>h) ⟨?_,?_⟩)) <;> rfl
  | true =>
    rw [hg] at cg
    have hsv:=hsv hg
    repeat' (first | (refine VC.conv (x:=.region 14 _ _) (s':=⟨[(17,.int .i64 e),(12,.sl 4 [] 1 0 T.length),(11,.ptr 0 []),(7,.ptr 5 [])],(4,txO T)::(5,stepA x)::dD n D3,gA,6⟩) (Sim.less [] (by rfl) R_ R_) (VC.region ?_)) | (refine VC.conv (x:=.region 19 _ _) (s':=⟨[(21,.sl 13 [] 1 0 (T ++ [t]).length),(20,.sl 10 [] 1 0 (texts (opn D3.B)).length),(17,.int .i64 e),(12,.sl 4 [] 1 0 T.length)],(13,txO (T ++ [t]))::(10,txO (texts (opn D3.B)))::[(4,txO T)],gA,14⟩) (by unfold txO;rw [List.length_append,List.length_singleton];refine Sim.less [] (by rfl) R_ ?_ <;> (repeat' (first | exact EnvLe.nil | exact HeapLe.nil | with_reducible apply EnvLe.cons | with_reducible apply HeapLe.cons | (with_reducible refine RelA.int ?_;first | (refine Keep.mk ?_;first | with_reducible rfl | omega | decide) | skip) | exact rfl | exact ⟨rfl,rfl⟩ | (with_reducible refine RelA.rsl ?_;intro i hi) | (with_reducible refine RelA.arr ?_;intro i hi) | with_reducible refine RelA.pair ?_ ?_ | with_reducible refine RelA.rptr ?_ | (with_reducible refine RelA.rslw ?_;intro i hi) | (refine RelA.rsl ?_;intro i hi) | (refine RelA.rslw ?_;intro i hi) | (refine RelA.arr ?_;intro i hi) | refine RelA.pair ?_ ?_ | refine RelA.tup ?_ | ((first | refine RelA.rslL (by first | rfl | ((try simp only [List.length_take,List.length_drop,List.length_append,List.length_cons,List.length_nil,List.length_map,List.length_range]);omega)) ?_ | refine RelA.rslT (by first | rfl | ((try simp only [List.length_take,List.length_drop,List.length_append,List.length_cons,List.length_nil,List.length_map,List.length_range]);omega)) ?_ | refine RelA.arrL (by first | rfl | ((try simp only [List.length_take,List.length_drop,List.length_append,List.length_cons,List.length_nil,List.length_map,List.length_range]);omega)) ?_);intro i hi;(try simp only [List.length_take,List.length_drop] at hi);(try simp (disch:=omega) only [getD_take,getD_drop,Nat.zero_add,Int.toNat_natCast])) | exact RelA.bif_int | refine RelA.fn ?_ ?_ | exact NoId.self (by first | ((repeat' (first | exact trivial | exact rfl | refine NoFr.bif ?_ ?_ | refine NoId.bif ?_ ?_ | refine AllFr.bif ?_ ?_ | (intro i hi) | (refine ⟨?_,?_⟩) | (intro e;cases e;done)));done) | fail))) <;> (try with_reducible refine Keep.mk ?_);all_goals exact rel_snocF (by assumption) (fun i=>by rw [Nat.zero_add]) rfl) (VC.region ?_)) | (first | with_reducible refine VC.seq ?_ | with_reducible refine VC.block ?_ | with_reducible refine VC.region ?_ | with_reducible refine VC.exit ?_ | with_reducible refine VC.ret ?_ | with_reducible refine VC.skip ?_ | with_reducible refine Seq.nil ?_ | with_reducible refine thenQ_n ?_ | with_reducible refine thenQ_r ?_ | with_reducible refine thenQ_e ?_ | with_reducible refine inQ_n ?_ | with_reducible refine inQ_r ?_ | with_reducible refine inQ_e ?_ | ((with_reducible refine inQ_o ?_ ?_);rfl) | (refine Seq.ev0 true tt_ok (by rfl) (by (first | exact trivial | exact u8_in _ rfl | exact u32_in _ rfl | ((with_reducible refine AllP.guard ?_);simp only [AllP,inI,fitV,maxK,inK,inbL,inb,List.append,List.cons_append,List.nil_append,true_and,and_true];first | done | omega))) rfl rfl rfl ?_) | (refine Seq.ev true tt_ok (by rfl) (by (first | exact trivial | exact u8_in _ rfl | exact u32_in _ rfl | ((with_reducible refine AllP.guard ?_);simp only [AllP,inI,fitV,maxK,inK,inbL,inb,List.append,List.cons_append,List.nil_append,true_and,and_true];first | done | omega))) rfl rfl rfl ?_) | (refine Seq.evn true tt_ok (by rfl) (by (first | exact trivial | exact u8_in _ rfl | exact u32_in _ rfl | ((with_reducible refine AllP.guard ?_);simp only [AllP,inI,fitV,maxK,inK,inbL,inb,List.append,List.cons_append,List.nil_append,true_and,and_true];first | done | omega))) rfl ?_) | (refine Seq.pass (by rfl) rfl ?_)) | (refine Seq.callp true (cg) Tryz.func22 gA_ok gR_sub (by rfl) (by rfl) rfl rfl rfl rfl rfl (by rfl) rfl VW_ NI_ NI_ FR_ ?_) | (refine Seq.callo false [] [(6,4),(7,5),(8,6),(9,7)] (.tup (.pair (.ptr 6 []) (.pair (.int .i64 0) .nul))) (jP n D3 (opn D3.B)) 10 (co3) Tryz.func11 gA_ok gK_sub (by rfl) (by rfl) rfl rfl rfl rfl rfl (by rfl) rfl (by rfl) (by rfl) (by rfl) (by rfl) VW_ NI_ R_ (noFrL_ok NI_) BK_ ?_) | (refine Seq.callo false [(4,6),(5,7),(6,8),(7,9)] [(6,4),(7,5),(8,6),(9,7),(10,8)] (.sl 10 [] 1 0 (texts (opn D3.B)).length) ((10,txO (texts (opn D3.B)))::jP n D3 (opn D3.B)) 11 (c3) Tryz.func16 gA_ok subG.nil (by rfl) (by rfl) rfl rfl rfl rfl rfl (by rfl) rfl (by rfl) (by rfl) (by rfl) (by rfl) VW_ NI_ R_ (noFrL_ok NI_) BK_ ?_) | (refine VC.drawE (id:=18) [(0,0),(1,0),(3,0)] [3] 2 110 [4,5,6,7] (by rfl) (by kernel_rfl) (by rfl) (by rfl) (by rfl) (by rfl) ?_) | (refine DSeq.nil (late_endE true tt_ok (by rfl) (by rfl) (by rfl) (by (first | exact trivial | exact u8_in _ rfl | exact u32_in _ rfl | ((with_reducible refine AllP.guard ?_);simp only [AllP,inI,fitV,maxK,inK,inbL,inb,List.append,List.cons_append,List.nil_append,true_and,and_true];first | done | omega))) (by rfl) (by rfl) (by repeat (first | exact trivial | refine ⟨trivial,?_⟩ | refine ⟨lateX (by rfl) (late_evH true tt_ok (by rfl) (by rfl) (by rfl) (by rfl) (by (first | exact trivial | exact u8_in _ rfl | exact u32_in _ rfl | ((with_reducible refine AllP.guard ?_);simp only [AllP,inI,fitV,maxK,inK,inbL,inb,List.append,List.cons_append,List.nil_append,true_and,and_true];first | done | omega)))),?_⟩)) (by rfl) ?_)) | (refine Seq.callp false (ct) Tryz.func20 gA_ok subG.nil (by rfl) (by rfl) rfl rfl rfl rfl rfl (by rfl) rfl VW_ NI_ NI_ FR_ ?_) | (refine VC.litF (by rfl) LFA_ ?_) | (refine DD_ ?_) | fail)
    rcases hsv with h | ⟨he,h⟩
    · rw [decide_eq_true h] at q2
      repeat' (first | (refine SS_ ?_) | (refine Seq.callp false (csan) Tryz.func6 gA_ok gK_sub (by rfl) (by rfl) rfl rfl rfl rfl rfl (by rfl) rfl VW_ NI_ NI_ FR_ ?_) | (refine Seq.callp true (q2) Tryz.func15 gA_ok subG.nil (by rfl) (by rfl) rfl rfl rfl rfl rfl (by rfl) rfl VW_ NI_ NI_ FR_ ?_) | fail)
      (refine retC_mk ([(10,.bool true)]) ([]) 14 (Sim.less [] (by rfl) R_ R_) (retQ_ok (by rfl) ([]) (fun i av h=>h) ⟨?_,?_⟩)) <;> rfl
    · have hne : ¬ texts (opn D3.B) = T ++ [t]:=fun h5=>by
        rw [h] at h5
        have:=congrArg List.length h5
        rw [List.length_append,List.length_singleton] at this
        omega
      have he : e ≠ 0:=he
      rw [decide_eq_false hne] at q2
      rw [decide_eq_true h] at q3
      repeat' (first | (refine SS_ ?_) | (refine Seq.callp false (csan) Tryz.func6 gA_ok gK_sub (by rfl) (by rfl) rfl rfl rfl rfl rfl (by rfl) rfl VW_ NI_ NI_ FR_ ?_) | (refine Seq.callp true (q2) Tryz.func15 gA_ok subG.nil (by rfl) (by rfl) rfl rfl rfl rfl rfl (by rfl) rfl VW_ NI_ NI_ FR_ ?_) | (refine Seq.callp true (q3) Tryz.func15 gA_ok subG.nil (by rfl) (by rfl) rfl rfl rfl rfl rfl (by rfl) rfl VW_ NI_ NI_ FR_ ?_) | (refine Seq.lit (by rfl) (by rfl) LT2_ ?_) | fail)
      (refine retC_mk ([(10,.bool true)]) ([]) 14 (Sim.less [] (by rfl) R_ R_) (retQ_ok (by rfl) ([]) (fun i av h=>h) ⟨?_,?_⟩)) <;> rfl
theorem survives_law (s : Int) (hs : I64 s) (l : List JStep) (hl : l.length ≤ 9223372036854775807∧∀ o ∈ l,StepOk o) (x : JStep) (hx : StepOk x) (tr : UInt8) (picks : List Int) (hp : picks.length ≤ 9223372036854775807) : Ok Tryz.prog 4 gA [] (.pair (.int .i64 s) (.pair (stepsA l) (.pair (stepA x) (.pair (.int .u8 (tr.toNat : Nat)) (.pair (liV picks) .nul))))) (fun r h'=>r = .bool true∧h' = []):=by
  by_cases h : 200 < s ∨ 12 < l.length ∨ 200 < picks.length ∨ s < 1
  · exact survives_out s l x tr picks hl.1 hp h
  · obtain ⟨n,rfl⟩ : ∃ n : Nat,s = n:=⟨s.toNat,by omega⟩
    exact survives_main n (by omega) (by omega) l x tr picks (by omega) (by omega) (fun o ho=>(hl.2 o ho).s) hx.s
end Go.Proofs.YtmbldnahcmkpgaaGreatDoor
