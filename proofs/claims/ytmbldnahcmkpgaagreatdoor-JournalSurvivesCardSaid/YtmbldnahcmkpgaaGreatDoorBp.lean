/- JournalSurvives: a disk that is filled; are all good sectors those of records? -/
import Derived.Test.YtmbldnahcmkpgaaGreatDoorAx
import Derived.Test.YtmbldnahcmkpgaaGreatDoorBk
set_option linter.unusedSimpArgs false
set_option linter.unusedVariables false
namespace Go.Proofs.YtmbldnahcmkpgaaGreatDoor
open Go.V Go.RowKit Go.L Go.Lx Go.Jn Go.Dk
set_option maxRecDepth 20000
set_option maxHeartbeats 4000000
def filT (n : Nat) (l : List JStep) : Nat→List Bs
  | 0=>[]
  | k + 1=>if (app n (calm (filB n (filT n l k))) (filJ (filT n l k)) (stepText (l.getD k jstZ).Size (l.getD k jstZ).Fill)).2.2 = 0 then filT n l k ++ [stepText (l.getD k jstZ).Size (l.getD k jstZ).Fill] else filT n l k
theorem filI_filT {n : Nat} (h1 : 1 ≤ n) (h2 : n ≤ 200) (l : List JStep) : ∀ k,k ≤ 20→FilI n k (filT n l k)
  | 0,_=>⟨h1,h2,Nat.zero_le _,fun t ht=>(by cases ht),Nat.le_refl _⟩
  | k + 1,hk=>by
    have ih:=filI_filT h1 h2 l k (by omega)
    rw [filT]
    rcases fil_step ih (by omega) (stepText (l.getD k jstZ).Size (l.getD k jstZ).Fill) with ⟨q1,q2⟩ | ⟨⟨e,q1,q2⟩,q3⟩
    · rw [q1,if_pos rfl];exact q2
    · rw [q1,if_neg (show ¬ e = 0 by omega)];exact q3
theorem rdL_on2 {n : Nat} {D : Disk} (hP : D.P = []) (ho : D.off = false) (hl : D.B.length = n) : rdL n D = D.B:=ext_getD (by rw [rdL_len,hl]) fun i hi=>by
  rw [rdL_len] at hi
  rw [rdL_get hi]
  exact rd_calm hi hP ho
theorem filled_no (s : Int) (h : s < 1) (l : List JStep) : Ok Tryz.prog 14 gK [] (.pair (.int .i64 s) (.pair (stepsA l) .nul)) (fun r h'=>r = .tup (.pair (.val (.pointer none)) (.pair (.val (.slice none 0 0)) (.pair (.bool false) .nul)))∧h' = []):=by
  have cn:=new_bad s (.inl h)
  refine Ok.of_vcC tt_ok Tryz.func14 rfl rfl (by show 2 ≤ _;decide) 0 (hlt_ok (by rfl)) fun c0=>?_
  repeat' (first | (refine SS_ ?_) | (refine Seq.callp false (cn) Tryz.func7 gK_ok subG.nil (by rfl) (by rfl) rfl rfl rfl rfl rfl (by rfl) rfl VW_ NI_ NI_ FR_ ?_) | (refine VC.litT (by rfl) LTR_ ?_) | fail)
  (refine retC_mk ([(4,.val (.pointer none)),(5,.val (.slice none 0 0)),(6,.bool false)]) ([]) 0 (Sim.less [] (by rfl) R_ R_) (retQ_ok (by rfl) ([]) (fun i av h=>h) ⟨?_,?_⟩)) <;> rfl
theorem filled_ok (n : Nat) (h1 : 1 ≤ n) (h2 : n ≤ 200) (l : List JStep) (hl : l.length ≤ 12) (hlo : ∀ o ∈ l,I64 o.Size) : Ok Tryz.prog 14 gK [] (.pair (.int .i64 (n : Nat)) (.pair (stepsA l) .nul))
    (fun r h'=>r = .tup (.pair (.ptr 0 []) (.pair (.sl 8 [] 1 0 (filT n l l.length).length) (.pair (.bool true) .nul)))∧h' = (8,txO (filT n l l.length))::dD n (calm (filB n (filT n l l.length)))):=by
  have cn:=new_ok (n : Nat) (by omega) (by omega)
  rw [Int.toNat_natCast] at cn
  have hF0:=filI_filT h1 h2 l 0 (by omega)
  have e0 : filB n (filT n l 0) = List.replicate n zs:=rfl
  have co:=open_ok (hF0.good (by omega)) rfl
  rw [rdL_calm hF0.len,hF0.opn (by omega)] at co
  have cn : Ok Tryz.prog 7 [] [] (.pair (.int .i64 (n : Nat)) .nul) (fun r h'=>r = .tup (.pair (.ptr 3 []) (.pair (.int .i64 0) .nul))∧h' = [(3,dskA n 0 1 2 false (-1)),(0,blksA n (filB n (filT n l 0))),(1,pendA []),(2,wornA [])]):=cn
  refine Ok.of_vcC tt_ok Tryz.func14 rfl rfl (by show 2 ≤ _;decide) 0 (hlt_ok (by rfl)) fun c0=>?_
  repeat' (first | (refine SS_ ?_) | (refine Seq.callo false [] [(0,3),(1,0),(2,1),(3,2)] (.tup (.pair (.ptr 0 []) (.pair (.int .i64 0) .nul))) (dD n (calm (filB n (filT n l 0)))) 4 (cn) Tryz.func7 gK_ok subG.nil (by rfl) (by rfl) rfl rfl rfl rfl rfl (by rfl) rfl (by rfl) (by rfl) (by rfl) (by rfl) VW_ NI_ R_ (noFrL_ok NI_) BK_ ?_) | (refine Seq.callo false [] [] (.tup (.pair (.ptr 4 []) (.pair (.int .i64 0) .nul))) (jH n (calm (filB n (filT n l 0))) (filJ (filT n l 0))) 8 (co) Tryz.func11 gK_ok subG.refl (by rfl) (by rfl) rfl rfl rfl rfl rfl (by rfl) rfl (by rfl) (by rfl) (by rfl) (by rfl) VW_ NI_ R_ (noFrL_ok NI_) BK_ ?_) | (refine VC.litF (by rfl) LFA_ ?_) | fail)
  refine VC.conv (s':=⟨[(40,.int .i64 ((0 : Nat) : Int)),(39,.int .i64 l.length),(38,stepsA l),(11,.val (.slice none 0 0)),(9,.ptr 4 []),(7,.ptr 0 [])],jH n (calm (filB n (filT n l 0))) (filJ (filT n l 0)),gK,8⟩) (Sim.less [] (by rfl) R_ R_) ?_
  refine VC.conv (Sim.ghost 11 1 (fun i=>.str (([] : List Bs).getD i [])) (by rfl) (.inl rfl)) ?_
  refine VC.loop (fun k : Nat=>⟨[(40,.int .i64 (k : Nat)),(39,.int .i64 l.length),(38,stepsA l),(11,.sl 8 [] 1 0 (filT n l k).length),(9,.ptr 4 []),(7,.ptr 0 [])],(8,txO (filT n l k))::jH n (calm (filB n (filT n l k))) (filJ (filT n l k)),gK,9⟩) (fun k=>k ≤ l.length) (fun k=>l.length - k) 0 (Nat.zero_le _) (Sim.less [] (by rfl) R_ R_) fun k hk=>?_
  by_cases hkl : k < l.length
  · have hF:=filI_filT h1 h2 l k (by omega)
    have eo : l.getD ((k : Nat) : Int).toNat jstZ = l.getD k jstZ:=by rw [Int.toNat_natCast]
    have hol : I64 (l.getD ((k : Nat) : Int).toNat jstZ).Size:=by rw [eo];exact hlo _ (Go.Lx.getD_mem hkl)
    have ct:=rtext_ok (l.getD ((k : Nat) : Int).toNat jstZ).K (l.getD ((k : Nat) : Int).toNat jstZ).I (l.getD ((k : Nat) : Int).toNat jstZ).Bit (l.getD ((k : Nat) : Int).toNat jstZ).Size (l.getD ((k : Nat) : Int).toNat jstZ).Fill (l.getD ((k : Nat) : Int).toNat jstZ).Pk hol
    have htl:=stepText_le (l.getD ((k : Nat) : Int).toNat jstZ).Size (l.getD ((k : Nat) : Int).toNat jstZ).Fill
    have hs : filT n l (k + 1) = if (app n (calm (filB n (filT n l k))) (filJ (filT n l k)) (stepText (l.getD k jstZ).Size (l.getD k jstZ).Fill)).2.2 = 0 then filT n l k ++ [stepText (l.getD k jstZ).Size (l.getD k jstZ).Fill] else filT n l k:=rfl
    rw [← eo] at hs
    have hst:=fil_step hF (by omega) (stepText (l.getD ((k : Nat) : Int).toNat jstZ).Size (l.getD ((k : Nat) : Int).toNat jstZ).Fill)
    generalize stepText (l.getD ((k : Nat) : Int).toNat jstZ).Size (l.getD ((k : Nat) : Int).toNat jstZ).Fill = t at *
    have hJ0 : JOkN n n (filJ (filT n l k)):=by rw [← hF.opn (by omega)];exact opn_ok hF.len
    have ca:=append_ok (hF.good (by omega)) hJ0 (by omega) t (by omega)
    have hTc:=hF.c
    generalize filT n l k = T at *
    rcases hst with ⟨q1,q2⟩ | ⟨⟨e,q1,q2⟩,q3⟩
    · rw [q1] at ca hs
      rw [if_pos rfl] at hs
      have ca : Ok Tryz.prog 19 gK (jH n (calm (filB n T)) (filJ T)) (.pair (.ptr 4 []) (.pair (.str t) .nul)) (fun r h'=>r = .tup (.pair (.int .i64 ((T.length : Int) + 1)) (.pair (.int .i64 0) .nul))∧h' = jHn n (calm (filB n (T ++ [t]))) (filJ (T ++ [t]))):=ca
      generalize hD' : calm (filB n (T ++ [t])) = D' at *
      generalize hJ' : filJ (T ++ [t]) = J' at *
      repeat' (first | (refine SS_ ?_) | (refine Seq.callp false (ct) Tryz.func20 gK_ok subG.nil (by rfl) (by rfl) rfl rfl rfl rfl rfl (by rfl) rfl VW_ NI_ NI_ FR_ ?_) | (refine Seq.callo false [] [(10,8),(11,9)] (.tup (.pair (.int .i64 ((T.length : Int) + 1)) (.pair (.int .i64 0) .nul))) (jL 10 11 n D' (nums J') J'.bad (texts J') J'.next J'.stop J'.shut) 12 (ca) Tryz.func19 gK_ok subG.refl (by rfl) (by rfl) rfl rfl rfl rfl rfl (by rfl) rfl (by rfl) (by rfl) (by rfl) (by rfl) VW_ NI_ R_ (noFrL_ok NI_) BK_ ?_) | (refine VC.litT (by rfl) LTR_ ?_) | fail)
      refine ⟨k + 1,(by omega : k + 1 ≤ l.length),(by omega : l.length - (k + 1) < l.length - k),?_⟩
      show ∀ a_1 w_1,_→Sim _ ⟨[(40,.int .i64 ((k + 1 : Nat) : Int)),(39,.int .i64 l.length),(38,stepsA l),(11,.sl 8 [] 1 0 (filT n l (k + 1)).length),(9,.ptr 4 []),(7,.ptr 0 [])],(8,txO (filT n l (k + 1)))::jH n (calm (filB n (filT n l (k + 1)))) (filJ (filT n l (k + 1))),gK,9⟩ a_1 w_1
      rw [hs,hD',hJ']
      unfold txO
      rw [List.length_append,List.length_singleton]
      (refine Sim.less [(8,13),(5,10),(7,11)] (by rfl) ?_ ?_ <;> (repeat' (first | (exact EnvLe.nil) | (exact HeapLe.nil) | (with_reducible apply EnvLe.cons) | (with_reducible apply HeapLe.cons) | ((with_reducible refine RelA.int ?_;first | (refine Keep.mk ?_;first | with_reducible rfl | omega | decide) | skip)) | (exact rfl) | (exact ⟨rfl,rfl⟩) | ((with_reducible refine RelA.rsl ?_;intro i hi)) | ((with_reducible refine RelA.arr ?_;intro i hi)) | (with_reducible refine RelA.pair ?_ ?_) | ((refine RelA.arr ?_;intro i hi)) | (exact NoId.self (by first | ((repeat' (first | exact trivial | exact rfl | refine NoFr.bif ?_ ?_ | refine NoId.bif ?_ ?_ | refine AllFr.bif ?_ ?_ | (intro i hi) | (refine ⟨?_,?_⟩) | (intro e;cases e;done)));done) | fail)) | fail)) <;> (try with_reducible refine Keep.mk ?_))
      exact rel_snocG (G:=AV.str) (fun e=>NI_) (by assumption)
    · rw [q1] at ca hs
      rw [if_neg (show ¬ e = 0 by omega)] at hs
      have ca : Ok Tryz.prog 19 gK (jH n (calm (filB n T)) (filJ T)) (.pair (.ptr 4 []) (.pair (.str t) .nul)) (fun r h'=>r = .tup (.pair (.int .i64 0) (.pair (.int .i64 e) .nul))∧h' = jHn n (calm (filB n T)) (filJ T)):=ca
      have he : e ≠ 0:=by omega
      generalize hD' : calm (filB n T) = D' at *
      generalize hJ' : filJ T = J' at *
      repeat' (first | (refine SS_ ?_) | (refine Seq.callp false (ct) Tryz.func20 gK_ok subG.nil (by rfl) (by rfl) rfl rfl rfl rfl rfl (by rfl) rfl VW_ NI_ NI_ FR_ ?_) | (refine Seq.callo false [] [(10,8),(11,9)] (.tup (.pair (.int .i64 0) (.pair (.int .i64 e) .nul))) (jL 10 11 n D' (nums J') J'.bad (texts J') J'.next J'.stop J'.shut) 12 (ca) Tryz.func19 gK_ok subG.refl (by rfl) (by rfl) rfl rfl rfl rfl rfl (by rfl) rfl (by rfl) (by rfl) (by rfl) (by rfl) VW_ NI_ R_ (noFrL_ok NI_) BK_ ?_) | (refine VC.litT (by rfl) LTR_ ?_) | (refine VC.litF (by rfl) LFA_ ?_) | fail)
      refine ⟨k + 1,(by omega : k + 1 ≤ l.length),(by omega : l.length - (k + 1) < l.length - k),?_⟩
      show ∀ a_1 w_1,_→Sim _ ⟨[(40,.int .i64 ((k + 1 : Nat) : Int)),(39,.int .i64 l.length),(38,stepsA l),(11,.sl 8 [] 1 0 (filT n l (k + 1)).length),(9,.ptr 4 []),(7,.ptr 0 [])],(8,txO (filT n l (k + 1)))::jH n (calm (filB n (filT n l (k + 1)))) (filJ (filT n l (k + 1))),gK,9⟩ a_1 w_1
      rw [hs,hD',hJ']
      exact (Sim.less [(5,10),(7,11)] (by rfl) R_ R_)
  · obtain rfl : k = l.length:=by omega
    repeat' (first | (refine SS_ ?_) | (refine VC.litF (by rfl) LFA_ ?_) | fail)
    (refine retC_mk ([(4,.ptr 0 []),(5,.sl 8 [] 1 0 (filT n l l.length).length),(6,.bool true)]) ((8,txO (filT n l l.length))::dD n (calm (filB n (filT n l l.length)))) 9 (Sim.less [] (by rfl) R_ R_) (retQ_ok (by rfl) ((8,txO (filT n l l.length))::dD n (calm (filB n (filT n l l.length)))) (fun i av h=>h) ⟨?_,?_⟩)) <;> rfl
noncomputable def genuB (B T : List Bs) : Bool:=@decide (Genu B T) (Classical.propDecidable _)
theorem unp_n1 {s : Bs} (h : (unp s).ok = true) : 1 ≤ (unp s).num:=by
  have hF : Fine s:=Classical.byContradiction fun hn=>by
    unfold unp at h;rw [if_neg hn] at h;cases h
  unfold unp
  rw [if_pos hF]
  exact hF.n1
theorem genuine_ok (B T : List Bs) (hBl : B.length ≤ 9223372036854775807) (hTl : T.length ≤ 9223372036854775807) (hB : ∀ s ∈ B,s.length ≤ 9223372036854775807) (hT : ∀ t ∈ T,t.length ≤ 9223372036854775807) : Ok Tryz.prog 22 gR [] (.pair (txV B) (.pair (txV T) .nul)) (fun r h'=>r = .bool (genuB B T)∧h' = []):=by
  have hno : ∀ k,k < B.length→(unp (B.getD k [])).ok = true→¬ ((unp (B.getD k [])).num ≤ T.length∧(T.getD ((unp (B.getD k [])).num - 1) []).length ≤ 8000∧(unp (B.getD k [])).part < cnt (T.getD ((unp (B.getD k [])).num - 1) []).length∧(parts (unp (B.getD k [])).num (T.getD ((unp (B.getD k [])).num - 1) [])).getD (unp (B.getD k [])).part [] = B.getD k [])→genuB B T = false:=fun k hk hok hn=>by
    unfold genuB
    exact @decide_eq_false _ (Classical.propDecidable _) fun h=>hn (h _ (Go.Lx.getD_mem hk) hok)
  refine Ok.of_vcC tt_ok Tryz.func22 rfl rfl (by show 2 ≤ _;decide) 0 (hlt_ok (by rfl)) fun c0=>?_
  repeat' (first | (refine SS_ ?_) | fail)
  refine VC.loop (fun k : Nat=>⟨[(12,.int .i64 (k : Nat)),(11,.int .i64 B.length),(10,txV B),(1,txV T)],[],gR,0⟩) (fun k=>k ≤ B.length∧∀ j,j < k→(unp (B.getD j [])).ok = true→(unp (B.getD j [])).num ≤ T.length∧(T.getD ((unp (B.getD j [])).num - 1) []).length ≤ 8000∧(unp (B.getD j [])).part < cnt (T.getD ((unp (B.getD j [])).num - 1) []).length∧(parts (unp (B.getD j [])).num (T.getD ((unp (B.getD j [])).num - 1) [])).getD (unp (B.getD j [])).part [] = B.getD j []) (fun k=>B.length - k) 0 ⟨Nat.zero_le _,fun j hj=>absurd hj (Nat.not_lt_zero _)⟩ (Sim.less [] (by rfl) R_ R_) fun k hk=>?_
  obtain ⟨hk,hr⟩:=hk
  by_cases hkl : k < B.length
  · have hno:=hno k hkl
    have hr1 : ((unp (B.getD k [])).ok = true→(unp (B.getD k [])).num ≤ T.length∧(T.getD ((unp (B.getD k [])).num - 1) []).length ≤ 8000∧(unp (B.getD k [])).part < cnt (T.getD ((unp (B.getD k [])).num - 1) []).length∧(parts (unp (B.getD k [])).num (T.getD ((unp (B.getD k [])).num - 1) [])).getD (unp (B.getD k [])).part [] = B.getD k [])→∀ j,j < k + 1→(unp (B.getD j [])).ok = true→(unp (B.getD j [])).num ≤ T.length∧(T.getD ((unp (B.getD j [])).num - 1) []).length ≤ 8000∧(unp (B.getD j [])).part < cnt (T.getD ((unp (B.getD j [])).num - 1) []).length∧(parts (unp (B.getD j [])).num (T.getD ((unp (B.getD j [])).num - 1) [])).getD (unp (B.getD j [])).part [] = B.getD j []:=fun h j hj=>by
      rcases Nat.lt_or_ge j k with q | q
      · exact hr j q
      · obtain rfl : j = k:=by omega
        exact h
    have es : B.getD ((k : Nat) : Int).toNat [] = B.getD k []:=by rw [Int.toNat_natCast]
    rw [← es] at hno hr1
    have hs64:=hB _ (Go.Lx.getD_mem (d:=[]) hkl)
    rw [← es] at hs64
    have cu:=runpack_ok (B.getD ((k : Nat) : Int).toNat []) hs64
    have hn1:=unp_n1 (s:=B.getD ((k : Nat) : Int).toNat [])
    have pk:=unp_pok (B.getD ((k : Nat) : Int).toNat [])
    generalize unp (B.getD ((k : Nat) : Int).toNat []) = p at *
    obtain ⟨q1,q2,q3,q4,q5⟩:=p
    cases q5 with
    | false =>
      repeat' (first | (refine SS_ ?_) | (refine Seq.callp false (cu) Tryz.func53 gR_ok subG.refl (by rfl) (by rfl) rfl rfl rfl rfl rfl (by rfl) rfl VW_ NI_ NI_ FR_ ?_) | (refine VC.litT (by rfl) LTR_ ?_) | fail)
      refine ⟨k + 1,⟨by omega,hr1 fun h=>by cases h⟩,by omega,by exact (Sim.less [] (by rfl) R_ R_)⟩
    | true =>
      have hn1 : 1 ≤ q1:=hn1 rfl
      have hno:=hno rfl
      have pk1 : q1 ≤ 4096:=pk.num
      by_cases g1 : q1 ≤ T.length
      · have et : T.getD ((q1 : Int) - 1).toNat [] = T.getD (q1 - 1) []:=by congr 1;omega
        have htl:=hT _ (Go.Lx.getD_mem (d:=[]) (show q1 - 1 < T.length by omega))
        have hno : ¬ (q1 ≤ T.length∧(T.getD (q1 - 1) []).length ≤ 8000∧q2 < cnt (T.getD (q1 - 1) []).length∧(parts q1 (T.getD (q1 - 1) [])).getD q2 [] = B.getD ((k : Nat) : Int).toNat [])→genuB B T = false:=hno
        have hr1 : (true = true→q1 ≤ T.length∧(T.getD (q1 - 1) []).length ≤ 8000∧q2 < cnt (T.getD (q1 - 1) []).length∧(parts q1 (T.getD (q1 - 1) [])).getD q2 [] = B.getD ((k : Nat) : Int).toNat [])→_:=hr1
        rw [← et] at hno htl hr1
        by_cases g2 : (T.getD ((q1 : Int) - 1).toNat []).length ≤ 8000
        · have cp:=rpack_ok q1 (T.getD ((q1 : Int) - 1).toNat []) hn1 pk1 g2
          have hpl:=parts_len q1 (T.getD ((q1 : Int) - 1).toNat [])
          generalize hl : parts q1 (T.getD ((q1 : Int) - 1).toNat []) = L at *
          have e2 : L.getD ((q2 : Nat) : Int).toNat [] = L.getD q2 []:=by rw [Int.toNat_natCast]
          by_cases g3 : q2 < L.length
          · by_cases g4 : L.getD ((q2 : Nat) : Int).toNat [] = B.getD ((k : Nat) : Int).toNat []
            · repeat' (first | (refine SS_ ?_) | (refine Seq.callp false (cu) Tryz.func53 gR_ok subG.refl (by rfl) (by rfl) rfl rfl rfl rfl rfl (by rfl) rfl VW_ NI_ NI_ FR_ ?_) | (refine VC.drawm (id:=8) [(0,0),(1,1),(2,0),(3,0),(4,8),(5,24),(6,60),(7,124),(8,255),(9,511),(10,1023),(11,1023),(12,2047)] [13] (by rfl) (by kernel_rfl) (by rfl) ?_) | (refine DSeq.callp false (cp) Tryz.func63 gR_ok subG.refl (by rfl) (fastE (by rfl)) (fastH (by rfl)) (by rfl) (by rfl) rfl rfl rfl rfl rfl (by rfl) (by rfl) VW_ NI_ NI_ FR_ ?_) | (refine VC.litT (by rfl) LTR_ ?_) | (refine VC.litF (by rfl) LFA_ ?_) | (refine DD_ ?_) | (refine Seq.litC (by rfl) (by rfl) (fun hb=>?_) (fun hb=>?_) <;> (fail_if_success (with_reducible have:=litT_ hb)) <;> (fail_if_success (with_reducible have:=litF_ hb)) <;> (try simp only [HB_] at hb) <;> (try (exfalso;first | omega | (cases hb;done)))) | (refine VC.cond (by rfl) (fun hb=>?_) (fun hb=>?_) <;> (fail_if_success (with_reducible have:=litT_ hb)) <;> (fail_if_success (with_reducible have:=litF_ hb)) <;> (try simp only [HB_] at hb) <;> (try (exfalso;first | omega | (cases hb;done)))) | fail)
              all_goals first | (refine ⟨k + 1,⟨by omega,hr1 fun _=>⟨g1,g2,by omega,by rw [← e2];exact g4⟩⟩,by omega,by exact (Sim.less [] (by rfl) R_ R_)⟩;done) | exact absurd g4 hb | (exfalso;exact hb g4) | (exfalso;revert hb;simp [g4];done) | trace_state
            · rw [hno fun h=>g4 (by rw [e2];exact h.2.2.2)]
              repeat' (first | (refine SS_ ?_) | (refine Seq.callp false (cu) Tryz.func53 gR_ok subG.refl (by rfl) (by rfl) rfl rfl rfl rfl rfl (by rfl) rfl VW_ NI_ NI_ FR_ ?_) | (refine VC.drawm (id:=8) [(0,0),(1,1),(2,0),(3,0),(4,8),(5,24),(6,60),(7,124),(8,255),(9,511),(10,1023),(11,1023),(12,2047)] [13] (by rfl) (by kernel_rfl) (by rfl) ?_) | (refine DSeq.callp false (cp) Tryz.func63 gR_ok subG.refl (by rfl) (fastE (by rfl)) (fastH (by rfl)) (by rfl) (by rfl) rfl rfl rfl rfl rfl (by rfl) (by rfl) VW_ NI_ NI_ FR_ ?_) | (refine VC.litT (by rfl) LTR_ ?_) | (refine VC.litF (by rfl) LFA_ ?_) | (refine DD_ ?_) | (refine Seq.litC (by rfl) (by rfl) (fun hb=>?_) (fun hb=>?_) <;> (fail_if_success (with_reducible have:=litT_ hb)) <;> (fail_if_success (with_reducible have:=litF_ hb)) <;> (try simp only [HB_] at hb) <;> (try (exfalso;first | omega | (cases hb;done)))) | (refine VC.cond (by rfl) (fun hb=>?_) (fun hb=>?_) <;> (fail_if_success (with_reducible have:=litT_ hb)) <;> (fail_if_success (with_reducible have:=litF_ hb)) <;> (try simp only [HB_] at hb) <;> (try (exfalso;first | omega | (cases hb;done)))) | fail)
              all_goals first | ((refine retC_mk ([(4,.bool false)]) ([]) 0 (Sim.less [] (by rfl) R_ R_) (retQ_ok (by rfl) ([]) (fun i av h=>h) ⟨?_,?_⟩)) <;> rfl;done) | trace_state
          · rw [hno fun h=>g3 (by have:=h.2.2.1;omega)]
            repeat' (first | (refine SS_ ?_) | (refine Seq.callp false (cu) Tryz.func53 gR_ok subG.refl (by rfl) (by rfl) rfl rfl rfl rfl rfl (by rfl) rfl VW_ NI_ NI_ FR_ ?_) | (refine VC.drawm (id:=8) [(0,0),(1,1),(2,0),(3,0),(4,8),(5,24),(6,60),(7,124),(8,255),(9,511),(10,1023),(11,1023),(12,2047)] [13] (by rfl) (by kernel_rfl) (by rfl) ?_) | (refine DSeq.callp false (cp) Tryz.func63 gR_ok subG.refl (by rfl) (fastE (by rfl)) (fastH (by rfl)) (by rfl) (by rfl) rfl rfl rfl rfl rfl (by rfl) (by rfl) VW_ NI_ NI_ FR_ ?_) | (refine VC.litT (by rfl) LTR_ ?_) | (refine VC.litF (by rfl) LFA_ ?_) | (refine DD_ ?_) | (refine Seq.litC (by rfl) (by rfl) (fun hb=>?_) (fun hb=>?_) <;> (fail_if_success (with_reducible have:=litT_ hb)) <;> (fail_if_success (with_reducible have:=litF_ hb)) <;> (try simp only [HB_] at hb) <;> (try (exfalso;first | omega | (cases hb;done)))) | (refine VC.cond (by rfl) (fun hb=>?_) (fun hb=>?_) <;> (fail_if_success (with_reducible have:=litT_ hb)) <;> (fail_if_success (with_reducible have:=litF_ hb)) <;> (try simp only [HB_] at hb) <;> (try (exfalso;first | omega | (cases hb;done)))) | fail)
            (refine retC_mk ([(4,.bool false)]) ([]) 0 (Sim.less [] (by rfl) R_ R_) (retQ_ok (by rfl) ([]) (fun i av h=>h) ⟨?_,?_⟩)) <;> rfl
        · rw [hno fun h=>g2 h.2.1]
          have hpe : packE q1 (T.getD ((q1 : Int) - 1).toNat []) = 4:=by unfold packE;rw [if_neg (by omega),if_pos (by omega)]
          have cp:=rpack_no q1 ⟨by omega,by omega⟩ (T.getD ((q1 : Int) - 1).toNat []) htl (by rw [hpe];decide)
          rw [hpe] at cp
          repeat' (first | (refine SS_ ?_) | (refine Seq.callp false (cu) Tryz.func53 gR_ok subG.refl (by rfl) (by rfl) rfl rfl rfl rfl rfl (by rfl) rfl VW_ NI_ NI_ FR_ ?_) | (refine VC.drawm (id:=8) [(0,0),(1,1),(2,0),(3,0),(4,8),(5,24),(6,60),(7,124),(8,255),(9,511),(10,1023),(11,1023),(12,2047)] [13] (by rfl) (by kernel_rfl) (by rfl) ?_) | (refine DSeq.callp false (cp) Tryz.func63 gR_ok subG.refl (by rfl) (fastE (by rfl)) (fastH (by rfl)) (by rfl) (by rfl) rfl rfl rfl rfl rfl (by rfl) (by rfl) VW_ NI_ NI_ FR_ ?_) | (refine VC.litT (by rfl) LTR_ ?_) | (refine VC.litF (by rfl) LFA_ ?_) | (refine DD_ ?_) | (refine VC.cond (by rfl) (fun hb=>?_) (fun hb=>?_) <;> (fail_if_success (with_reducible have:=litT_ hb)) <;> (fail_if_success (with_reducible have:=litF_ hb)) <;> (try simp only [HB_] at hb) <;> (try (exfalso;first | omega | (cases hb;done)))) | fail)
          (refine retC_mk ([(4,.bool false)]) ([]) 0 (Sim.less [] (by rfl) R_ R_) (retQ_ok (by rfl) ([]) (fun i av h=>h) ⟨?_,?_⟩)) <;> rfl
      · rw [hno fun h=>g1 h.1]
        repeat' (first | (refine SS_ ?_) | (refine Seq.callp false (cu) Tryz.func53 gR_ok subG.refl (by rfl) (by rfl) rfl rfl rfl rfl rfl (by rfl) rfl VW_ NI_ NI_ FR_ ?_) | (refine VC.litT (by rfl) LTR_ ?_) | (refine VC.litF (by rfl) LFA_ ?_) | (refine VC.cond (by rfl) (fun hb=>?_) (fun hb=>?_) <;> (fail_if_success (with_reducible have:=litT_ hb)) <;> (fail_if_success (with_reducible have:=litF_ hb)) <;> (try simp only [HB_] at hb) <;> (try (exfalso;first | omega | (cases hb;done)))) | fail)
        (refine retC_mk ([(4,.bool false)]) ([]) 0 (Sim.less [] (by rfl) R_ R_) (retQ_ok (by rfl) ([]) (fun i av h=>h) ⟨?_,?_⟩)) <;> rfl
  · obtain rfl : k = B.length:=by omega
    have hg : genuB B T = true:=by
      unfold genuB
      refine @decide_eq_true _ (Classical.propDecidable _) fun s hs hok=>?_
      obtain ⟨i,hi,e⟩:=List.mem_iff_getElem.1 hs
      have:=hr i hi
      rw [List.getD_eq_getElem?_getD,List.getElem?_eq_getElem hi,Option.getD_some,e] at this
      exact this hok
    rw [hg]
    repeat' (first | (refine SS_ ?_) | (refine VC.litF (by rfl) LFA_ ?_) | fail)
    (refine retC_mk ([(4,.bool true)]) ([]) 0 (Sim.less [] (by rfl) R_ R_) (retQ_ok (by rfl) ([]) (fun i av h=>h) ⟨?_,?_⟩)) <;> rfl
end Go.Proofs.YtmbldnahcmkpgaaGreatDoor
