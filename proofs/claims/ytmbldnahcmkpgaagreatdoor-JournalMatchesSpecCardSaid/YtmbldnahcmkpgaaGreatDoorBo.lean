/- JournalMatchesSpec. -/
import Derived.Test.YtmbldnahcmkpgaaGreatDoorBn
import Derived.Test.YtmbldnahcmkpgaaGreatDoorBr
set_option linter.unusedSimpArgs false
set_option linter.unusedVariables false
namespace Go.Proofs.YtmbldnahcmkpgaaGreatDoor
open Go.V Go.RowKit Go.L Go.Lx Go.Jn Go.Dk
set_option maxRecDepth 20000
set_option maxHeartbeats 4000000
abbrev bHg (a c a' c' n : Nat) (D : Disk) (J : Jr) : Asc:=(6,jrA 0 a 8 c (nums J) J.bad (texts J) J.next J.stop J.shut)::(a,liO (nums J))::(8,liO J.bad)::(c,txO (texts J))::(10,rjP 4 a' 12 c' (nums J) J.bad (texts J) J.next J.stop J.shut)::(a',liO (nums J))::(12,liO J.bad)::(c',txO (texts J))::bD n D
abbrev jPg (a c n : Nat) (D : Disk) (J : Jr) : Asc:=(6,jrA 0 a 8 c (nums J) J.bad (texts J) J.next J.stop J.shut)::(a,liO (nums J))::(8,liO J.bad)::(c,txO (texts J))::dD n D
abbrev rPg (a c n : Nat) (D : Disk) (J : Jr) : Asc:=(10,rjP 4 a 12 c (nums J) J.bad (texts J) J.next J.stop J.shut)::(a,liO (nums J))::(12,liO J.bad)::(c,txO (texts J))::r5 n D
abbrev jPh (n : Nat) (D : Disk) (J : Jr) : Asc:=(15,jrA 0 16 17 18 (nums J) J.bad (texts J) J.next J.stop J.shut)::(16,liO (nums J))::(17,liO J.bad)::(18,txO (texts J))::dD n D
abbrev rPh (n : Nat) (D : Disk) (J : Jr) : Asc:=(19,rjP 4 20 21 22 (nums J) J.bad (texts J) J.next J.stop J.shut)::(20,liO (nums J))::(21,liO J.bad)::(22,txO (texts J))::r5 n D
abbrev bHh (n : Nat) (D : Disk) (J : Jr) : Asc:=(15,jrA 0 16 17 18 (nums J) J.bad (texts J) J.next J.stop J.shut)::(16,liO (nums J))::(17,liO J.bad)::(18,txO (texts J))::(19,rjP 4 20 21 22 (nums J) J.bad (texts J) J.next J.stop J.shut)::(20,liO (nums J))::(21,liO J.bad)::(22,txO (texts J))::bD n D
theorem JOkN.more {n c d : Nat} {J : Jr} (h : JOkN n c J) (hc : c ≤ d) : JOkN n d J:=⟨h.n1,h.n2,h.stop,Nat.le_trans h.len hc,h.bad⟩
theorem matches_out (s : Int) (l : List JStep) (hl : l.length ≤ 9223372036854775807) (h : 200 < s ∨ fewB l = false ∨ s < 1) : Ok Tryz.prog 5 gA [] (.pair (.int .i64 s) (.pair (stepsA l) .nul)) (fun r h'=>r = .bool true∧h' = []):=by
  have csan:=sanity_ok
  by_cases h1 : 200 < s
  · refine Ok.of_vcC tt_ok Tryz.func5 rfl rfl (by show 2 ≤ _;decide) 0 (hlt_ok (by rfl)) fun c0=>?_
    repeat' (first | (refine SS_ ?_) | (refine Seq.callp false (csan) Tryz.func6 gA_ok gK_sub (by rfl) (by rfl) rfl rfl rfl rfl rfl (by rfl) rfl VW_ NI_ NI_ FR_ ?_) | (refine Seq.lit (by rfl) (by rfl) LT2_ ?_) | (refine VC.litT (by rfl) LTR_ ?_) | fail)
    (refine retC_mk ([(4,.bool true)]) ([]) 0 (Sim.less [] (by rfl) R_ R_) (retQ_ok (by rfl) ([]) (fun i av h=>h) ⟨?_,?_⟩)) <;> rfl
  have cf:=few_ok l hl
  cases hf : fewB l with
  | false =>
    rw [hf] at cf
    refine Ok.of_vcC tt_ok Tryz.func5 rfl rfl (by show 2 ≤ _;decide) 0 (hlt_ok (by rfl)) fun c0=>?_
    repeat' (first | (refine SS_ ?_) | (refine Seq.callp false (cf) Tryz.func24 gA_ok subG.nil (by rfl) (by rfl) rfl rfl rfl rfl rfl (by rfl) rfl VW_ NI_ NI_ FR_ ?_) | (refine Seq.callp false (csan) Tryz.func6 gA_ok gK_sub (by rfl) (by rfl) rfl rfl rfl rfl rfl (by rfl) rfl VW_ NI_ NI_ FR_ ?_) | (refine Seq.lit (by rfl) (by rfl) LT2_ ?_) | (refine VC.litT (by rfl) LTR_ ?_) | fail)
    (refine retC_mk ([(4,.bool true)]) ([]) 0 (Sim.less [] (by rfl) R_ R_) (retQ_ok (by rfl) ([]) (fun i av h=>h) ⟨?_,?_⟩)) <;> rfl
  | true =>
    rw [hf] at cf
    have h4 : s < 1:=by
      rcases h with h | h | h
      · omega
      · rw [hf] at h;cases h
      · exact h
    have cn:=new_bad s (.inl h4)
    have crn:=rnew_bad s (.inl h4)
    refine Ok.of_vcC tt_ok Tryz.func5 rfl rfl (by show 2 ≤ _;decide) 0 (hlt_ok (by rfl)) fun c0=>?_
    repeat' (first | (refine SS_ ?_) | (refine Seq.callp false (cf) Tryz.func24 gA_ok subG.nil (by rfl) (by rfl) rfl rfl rfl rfl rfl (by rfl) rfl VW_ NI_ NI_ FR_ ?_) | (refine Seq.callp false (cn) Tryz.func7 gA_ok subG.nil (by rfl) (by rfl) rfl rfl rfl rfl rfl (by rfl) rfl VW_ NI_ NI_ FR_ ?_) | (refine Seq.callp false (crn) Tryz.func8 gA_ok subG.nil (by rfl) (by rfl) rfl rfl rfl rfl rfl (by rfl) rfl VW_ NI_ NI_ FR_ ?_) | (refine Seq.callp false (csan) Tryz.func6 gA_ok gK_sub (by rfl) (by rfl) rfl rfl rfl rfl rfl (by rfl) rfl VW_ NI_ NI_ FR_ ?_) | (refine Seq.lit (by rfl) (by rfl) LT2_ ?_) | (refine VC.litT (by rfl) LTR_ ?_) | (refine VC.litF (by rfl) LFA_ ?_) | fail)
    (refine retC_mk ([(4,.bool true)]) ([]) 0 (Sim.less [] (by rfl) R_ R_) (retQ_ok (by rfl) ([]) (fun i av h=>h) ⟨?_,?_⟩)) <;> rfl
abbrev mE (l : List JStep) (k : Nat) : Asc:=[(71,.int .i64 (k : Nat)),(70,.int .i64 l.length),(69,stepsA l),(11,.ptr 10 []),(9,.ptr 6 []),(7,.ptr 4 []),(5,.ptr 0 [])]
structure MatI (n k : Nat) (D : Disk) (J : Jr) : Prop where
  good : GoodD n D
  jok : JOkN n (n + k) J
theorem matches_main (n : Nat) (h1 : 1 ≤ n) (h2 : n ≤ 200) (l : List JStep) (hl : l.length ≤ 30) (hf : fewB l = true) (hlo : ∀ o ∈ l,StepOk o) (hlp : ∀ o ∈ l,o.Pk.length ≤ 9223372036854775807) : Ok Tryz.prog 5 gA [] (.pair (.int .i64 (n : Nat)) (.pair (stepsA l) .nul)) (fun r h'=>r = .bool true∧h' = []):=by
  have csan:=sanity_ok
  have cf:=few_ok l (by omega)
  rw [hf] at cf
  have cn:=new_ok (n : Nat) (by omega) (by omega)
  have crn:=rnew_ok (n : Nat) (by omega) (by omega)
  rw [Int.toNat_natCast] at cn crn
  have crn : Ok Tryz.prog 8 [] [] (.pair (.int .i64 (n : Nat)) .nul) (fun r h'=>r = .tup (.pair (.ptr 0 []) (.pair (.int .i64 0) .nul))∧h' = rDD n (wornD n [])):=by
    rw [← secs_new] at crn
    exact crn
  have hI0:=readI_new (n:=n) (by omega) (by omega)
  have co:=open_ok hI0.good hI0.on
  have cro:=ropen_ok (left:=max (-1) (wornD n []).left) hI0.good hI0.on
  have hJ0:=opn_ok (rdL_len n (wornD n []))
  generalize opn (rdL n (wornD n [])) = J0 at *
  have cs0:=jsame_ok (D:=wornD n []) (J:=J0) (by omega : n ≤ 4096) hJ0 (by omega)
  refine Ok.of_vcC tt_ok Tryz.func5 rfl rfl (by show 2 ≤ _;decide) 0 (hlt_ok (by rfl)) fun c0=>?_
  repeat' (first | (refine SS_ ?_) | (refine Seq.callp false (cf) Tryz.func24 gA_ok subG.nil (by rfl) (by rfl) rfl rfl rfl rfl rfl (by rfl) rfl VW_ NI_ NI_ FR_ ?_) | (refine Seq.callo false [] [(0,3),(1,0),(2,1),(3,2)] (.tup (.pair (.ptr 0 []) (.pair (.int .i64 0) .nul))) (dD n (wornD n [])) 4 (cn) Tryz.func7 gA_ok subG.nil (by rfl) (by rfl) rfl rfl rfl rfl rfl (by rfl) rfl (by rfl) (by rfl) (by rfl) (by rfl) VW_ NI_ R_ (noFrL_ok NI_) BK_ ?_) | (refine Seq.callo false [] [(4,0),(5,1)] (.tup (.pair (.ptr 4 []) (.pair (.int .i64 0) .nul))) (r5 n (wornD n [])) 6 (crn) Tryz.func8 gA_ok subG.nil (by rfl) (by rfl) rfl rfl rfl rfl rfl (by rfl) rfl (by rfl) (by rfl) (by rfl) (by rfl) VW_ NI_ R_ (noFrL_ok NI_) BK_ ?_) | (refine Seq.callo false [] [(6,4),(7,5),(8,6),(9,7)] (.tup (.pair (.ptr 6 []) (.pair (.int .i64 0) .nul))) (jP n (wornD n []) J0) 10 (co) Tryz.func11 gA_ok gK_sub (by rfl) (by rfl) rfl rfl rfl rfl rfl (by rfl) rfl (by rfl) (by rfl) (by rfl) (by rfl) VW_ NI_ R_ (noFrL_ok NI_) BK_ ?_) | (refine Seq.callo false [(0,4),(1,5)] [(4,0),(5,1),(10,2),(11,3),(12,4),(13,5)] (.tup (.pair (.ptr 10 []) (.pair (.int .i64 0) .nul))) (rP n (wornD n []) J0) 14 (cro) Tryz.func12 gA_ok gR_sub (by rfl) (by rfl) rfl rfl rfl rfl rfl (by rfl) rfl (by rfl) (by rfl) (by rfl) (by rfl) VW_ NI_ R_ (noFrL_ok NI_) BK_ ?_) | (refine Seq.callo false [] [] (.bool true) (bH n (wornD n []) J0) 14 (cs0) Tryz.func13 gA_ok subG.nil (by rfl) (by rfl) rfl rfl rfl rfl rfl (by rfl) rfl (by rfl) (by rfl) (by rfl) (by rfl) VW_ NI_ R_ (noFrL_ok NI_) BK_ ?_) | (refine Seq.lit (by rfl) (by rfl) LT2_ ?_) | (refine VC.litF (by rfl) LFA_ ?_) | fail)
  refine VC.loop (fun x : Nat × Disk × Jr=>⟨mE l x.1,bH n x.2.1 x.2.2,gA,14⟩) (fun x=>x.1 ≤ l.length∧MatI n x.1 x.2.1 x.2.2) (fun x=>l.length - x.1) (0,wornD n [],J0) ⟨Nat.zero_le _,hI0.good,hJ0⟩ (Sim.less [] (by rfl) R_ R_) fun x hx=>?_
  obtain ⟨k,D,J⟩:=x
  obtain ⟨hk,hG,hJ⟩:=hx
  have hk : k ≤ l.length:=hk
  have hG : GoodD n D:=hG
  have hJ : JOkN n (n + k) J:=hJ
  show VC _ _ _ ⟨mE l k,bH n D J,gA,14⟩
  by_cases hkl : k < l.length
  · have eo : l.getD ((k : Nat) : Int).toNat jstZ = l.getD k jstZ:=by rw [Int.toNat_natCast]
    have ho:=hlo _ (Go.Lx.getD_mem (d:=jstZ) hkl)
    have hp:=hlp _ (Go.Lx.getD_mem (d:=jstZ) hkl)
    rw [← eo] at ho hp
    by_cases hK1 : (l.getD ((k : Nat) : Int).toNat jstZ).K = 1
    · have ct:=rtext_ok (l.getD ((k : Nat) : Int).toNat jstZ).K (l.getD ((k : Nat) : Int).toNat jstZ).I (l.getD ((k : Nat) : Int).toNat jstZ).Bit (l.getD ((k : Nat) : Int).toNat jstZ).Size (l.getD ((k : Nat) : Int).toNat jstZ).Fill (l.getD ((k : Nat) : Int).toNat jstZ).Pk ho.s
      have htl:=stepText_le (l.getD ((k : Nat) : Int).toNat jstZ).Size (l.getD ((k : Nat) : Int).toNat jstZ).Fill
      generalize stepText (l.getD ((k : Nat) : Int).toNat jstZ).Size (l.getD ((k : Nat) : Int).toNat jstZ).Fill = t at *
      have ca:=append_ok hG hJ (by omega) t (by omega)
      have cra:=rappend_ok hG hJ (by omega) t (by omega)
      have gG:=app_good hG hJ t
      have gJ:=app_jok (D:=D) hJ t
      generalize app n D J t = R at *
      obtain ⟨⟨D',J'⟩,m,e⟩:=R
      have gG : GoodD n D':=gG
      have gJ : JOkN n (n + (k + 1)) J':=gJ
      have cs:=jsame_ok (D:=D') (J:=J') (by omega) gJ (by omega)
      obtain ⟨R2,b2,x2,s2,h2⟩:=J'
      cases h2 with
      | true =>
        repeat' (first | (refine SS_ ?_) | (refine Seq.callp false (ct) Tryz.func20 gA_ok subG.nil (by rfl) (by rfl) rfl rfl rfl rfl rfl (by rfl) rfl VW_ NI_ NI_ FR_ ?_) | (refine Seq.callo false [(4,6),(5,7),(6,8),(7,9)] [(6,4),(8,6),(15,8),(16,9)] (.tup (.pair (.int .i64 m) (.pair (.int .i64 e) .nul))) (jPg 15 16 n D' ⟨R2,b2,x2,s2,true⟩) 17 (ca) Tryz.func19 gA_ok gK_sub (by rfl) (by rfl) rfl rfl rfl rfl rfl (by rfl) rfl (by rfl) (by rfl) (by rfl) (by rfl) VW_ NI_ R_ (noFrL_ok NI_) BK_ ?_) | (refine Seq.callo false [(0,4),(1,5),(2,10),(3,11),(4,12),(5,13)] [(4,0),(5,1),(10,2),(12,4),(17,6),(18,7)] (.tup (.pair (.int .i64 m) (.pair (.int .i64 e) .nul))) (rPg 17 18 n D' ⟨R2,b2,x2,s2,true⟩) 19 (cra) Tryz.func25 gA_ok gR_sub (by rfl) (by rfl) rfl rfl rfl rfl rfl (by rfl) rfl (by rfl) (by rfl) (by rfl) (by rfl) VW_ NI_ R_ (noFrL_ok NI_) BK_ ?_) | (refine Seq.lit (by rfl) (by rfl) LT2_ ?_) | (refine VC.litT (by rfl) LTR_ ?_) | (refine VC.litF (by rfl) LFA_ ?_) | fail)
        refine ⟨(k + 1,D',⟨R2,b2,x2,s2,true⟩),⟨(by omega : k + 1 ≤ l.length),gG,gJ⟩,(by omega : l.length - (k + 1) < l.length - k),?_⟩
        show ∀ a_1 w_1,_→Sim _ ⟨mE l (k + 1),bH n D' ⟨R2,b2,x2,s2,true⟩,gA,14⟩ a_1 w_1
        exact (Sim.less [(7,15),(9,16),(11,17),(13,18)] (by rfl) R_ R_)
      | false =>
        repeat' (first | (refine SS_ ?_) | (refine Seq.callp false (ct) Tryz.func20 gA_ok subG.nil (by rfl) (by rfl) rfl rfl rfl rfl rfl (by rfl) rfl VW_ NI_ NI_ FR_ ?_) | (refine Seq.callo false [(4,6),(5,7),(6,8),(7,9)] [(6,4),(8,6),(15,8),(16,9)] (.tup (.pair (.int .i64 m) (.pair (.int .i64 e) .nul))) (jPg 15 16 n D' ⟨R2,b2,x2,s2,false⟩) 17 (ca) Tryz.func19 gA_ok gK_sub (by rfl) (by rfl) rfl rfl rfl rfl rfl (by rfl) rfl (by rfl) (by rfl) (by rfl) (by rfl) VW_ NI_ R_ (noFrL_ok NI_) BK_ ?_) | (refine Seq.callo false [(0,4),(1,5),(2,10),(3,11),(4,12),(5,13)] [(4,0),(5,1),(10,2),(12,4),(17,6),(18,7)] (.tup (.pair (.int .i64 m) (.pair (.int .i64 e) .nul))) (rPg 17 18 n D' ⟨R2,b2,x2,s2,false⟩) 19 (cra) Tryz.func25 gA_ok gR_sub (by rfl) (by rfl) rfl rfl rfl rfl rfl (by rfl) rfl (by rfl) (by rfl) (by rfl) (by rfl) VW_ NI_ R_ (noFrL_ok NI_) BK_ ?_) | (refine Seq.callo false [(7,15),(9,16),(11,17),(13,18)] [(15,7),(16,9),(17,11),(18,13)] (.bool true) (bHg 15 16 17 18 n D' ⟨R2,b2,x2,s2,false⟩) 19 (cs) Tryz.func13 gA_ok subG.nil (by rfl) (by rfl) rfl rfl rfl rfl rfl (by rfl) rfl (by rfl) (by rfl) (by rfl) (by rfl) VW_ NI_ R_ (noFrL_ok NI_) BK_ ?_) | (refine Seq.lit (by rfl) (by rfl) LT2_ ?_) | (refine VC.litT (by rfl) LTR_ ?_) | (refine VC.litF (by rfl) LFA_ ?_) | fail)
        refine ⟨(k + 1,D',⟨R2,b2,x2,s2,false⟩),⟨(by omega : k + 1 ≤ l.length),gG,gJ⟩,(by omega : l.length - (k + 1) < l.length - k),?_⟩
        show ∀ a_1 w_1,_→Sim _ ⟨mE l (k + 1),bH n D' ⟨R2,b2,x2,s2,false⟩,gA,14⟩ a_1 w_1
        exact (Sim.less [(7,15),(9,16),(11,17),(13,18)] (by rfl) R_ R_)
    by_cases hK3 : (l.getD ((k : Nat) : Int).toNat jstZ).K = 3
    · have cm:=pmount_ok hG (l.getD ((k : Nat) : Int).toNat jstZ).Pk hp
      have crm:=prmount_ok hG (l.getD ((k : Nat) : Int).toNat jstZ).Pk hp
      have gG:=good_do hG (o:=opM (l.getD ((k : Nat) : Int).toNat jstZ).Pk) (opM_ok hp)
      have gO : (doD n D (opM (l.getD ((k : Nat) : Int).toNat jstZ).Pk)).off = false:=rfl
      generalize doD n D (opM (l.getD ((k : Nat) : Int).toNat jstZ).Pk) = D' at *
      have co:=open_ok gG gO
      have cro:=ropen_ok (left:=max (-1) D'.left) gG gO
      have hJ':=opn_ok (rdL_len n D')
      have hsh : (opn (rdL n D')).shut = false:=rfl
      generalize opn (rdL n D') = J' at *
      have gJ : JOkN n (n + (k + 1)) J':=hJ'.more (by omega)
      have cs:=jsame_ok (D:=D') (J:=J') (by omega) gJ (by omega)
      obtain ⟨R2,b2,x2,s2,h2⟩:=J'
      have hsh : h2 = false:=hsh
      subst hsh
      repeat' (first | (refine SS_ ?_) | (refine Seq.callo false [] [] (.tup .nul) (dD n D') 15 (cm) Tryz.func21 gA_ok subG.nil (by rfl) (by rfl) rfl rfl rfl rfl rfl (by rfl) rfl (by rfl) (by rfl) (by rfl) (by rfl) VW_ NI_ R_ (noFrL_ok NI_) BK_ ?_) | (refine Seq.callo false [(0,4),(1,5)] [(4,0),(5,1)] (.tup .nul) (r5 n D') 15 (crm) Tryz.func27 gA_ok subG.nil (by rfl) (by rfl) rfl rfl rfl rfl rfl (by rfl) rfl (by rfl) (by rfl) (by rfl) (by rfl) VW_ NI_ R_ (noFrL_ok NI_) BK_ ?_) | (refine Seq.callo false [] [(15,4),(16,5),(17,6),(18,7)] (.tup (.pair (.ptr 15 []) (.pair (.int .i64 0) .nul))) (jPh n D' ⟨R2,b2,x2,s2,false⟩) 19 (co) Tryz.func11 gA_ok gK_sub (by rfl) (by rfl) rfl rfl rfl rfl rfl (by rfl) rfl (by rfl) (by rfl) (by rfl) (by rfl) VW_ NI_ R_ (noFrL_ok NI_) BK_ ?_) | (refine Seq.callo false [(0,4),(1,5)] [(4,0),(5,1),(19,2),(20,3),(21,4),(22,5)] (.tup (.pair (.ptr 19 []) (.pair (.int .i64 0) .nul))) (rPh n D' ⟨R2,b2,x2,s2,false⟩) 23 (cro) Tryz.func12 gA_ok gR_sub (by rfl) (by rfl) rfl rfl rfl rfl rfl (by rfl) rfl (by rfl) (by rfl) (by rfl) (by rfl) VW_ NI_ R_ (noFrL_ok NI_) BK_ ?_) | (refine Seq.callo false [(6,15),(7,16),(8,17),(9,18),(10,19),(11,20),(12,21),(13,22)] [(15,6),(16,7),(17,8),(18,9),(19,10),(20,11),(21,12),(22,13)] (.bool true) (bHh n D' ⟨R2,b2,x2,s2,false⟩) 23 (cs) Tryz.func13 gA_ok subG.nil (by rfl) (by rfl) rfl rfl rfl rfl rfl (by rfl) rfl (by rfl) (by rfl) (by rfl) (by rfl) VW_ NI_ R_ (noFrL_ok NI_) BK_ ?_) | (refine VC.litT (by rfl) LTR_ ?_) | (refine VC.litF (by rfl) LFA_ ?_) | fail)
      refine ⟨(k + 1,D',⟨R2,b2,x2,s2,false⟩),⟨(by omega : k + 1 ≤ l.length),gG,gJ⟩,(by omega : l.length - (k + 1) < l.length - k),?_⟩
      show ∀ a_1 w_1,_→Sim _ ⟨mE l (k + 1),bH n D' ⟨R2,b2,x2,s2,false⟩,gA,14⟩ a_1 w_1
      exact (Sim.less [(6,15),(7,16),(8,17),(9,18),(10,19),(11,20),(12,21),(13,22)] (by rfl) R_ R_)
    have gJ : JOkN n (n + (k + 1)) J:=hJ.more (by omega)
    obtain ⟨R2,b2,x2,s2,h2⟩:=J
    by_cases hK2 : (l.getD ((k : Nat) : Int).toNat jstZ).K = 2
    · have gG:=good_do hG (o:=opT (l.getD ((k : Nat) : Int).toNat jstZ).I) (opT_ok ho.i)
      have c1:=ptrip_ok (n:=n) (D:=D) (l.getD ((k : Nat) : Int).toNat jstZ).I
      have c2:=prtrip_ok (n:=n) (D:=D) (l.getD ((k : Nat) : Int).toNat jstZ).I
      generalize doD n D (opT (l.getD ((k : Nat) : Int).toNat jstZ).I) = D' at *
      have cs:=jsame_ok (D:=D') (J:=⟨R2,b2,x2,s2,h2⟩) (by omega) gJ (by omega)
      cases h2 with
      | true =>
        repeat' (first | (refine SS_ ?_) | (refine Seq.callo false [] [] (.tup .nul) (dD n D') 15 (c1) Tryz.func18 gA_ok subG.nil (by rfl) (by rfl) rfl rfl rfl rfl rfl (by rfl) rfl (by rfl) (by rfl) (by rfl) (by rfl) VW_ NI_ R_ (noFrL_ok NI_) BK_ ?_) | (refine Seq.callo false [(0,4),(1,5)] [(4,0),(5,1)] (.tup .nul) (r5 n D') 15 (c2) Tryz.func26 gA_ok subG.nil (by rfl) (by rfl) rfl rfl rfl rfl rfl (by rfl) rfl (by rfl) (by rfl) (by rfl) (by rfl) VW_ NI_ R_ (noFrL_ok NI_) BK_ ?_) | (refine VC.litT (by rfl) LTR_ ?_) | (refine VC.litF (by rfl) LFA_ ?_) | fail)
        refine ⟨(k + 1,D',⟨R2,b2,x2,s2,true⟩),⟨(by omega : k + 1 ≤ l.length),gG,gJ⟩,(by omega : l.length - (k + 1) < l.length - k),?_⟩
        show ∀ a_1 w_1,_→Sim _ ⟨mE l (k + 1),bH n D' ⟨R2,b2,x2,s2,true⟩,gA,14⟩ a_1 w_1
        exact (Sim.less [] (by rfl) R_ R_)
      | false =>
        repeat' (first | (refine SS_ ?_) | (refine Seq.callo false [] [] (.tup .nul) (dD n D') 15 (c1) Tryz.func18 gA_ok subG.nil (by rfl) (by rfl) rfl rfl rfl rfl rfl (by rfl) rfl (by rfl) (by rfl) (by rfl) (by rfl) VW_ NI_ R_ (noFrL_ok NI_) BK_ ?_) | (refine Seq.callo false [(0,4),(1,5)] [(4,0),(5,1)] (.tup .nul) (r5 n D') 15 (c2) Tryz.func26 gA_ok subG.nil (by rfl) (by rfl) rfl rfl rfl rfl rfl (by rfl) rfl (by rfl) (by rfl) (by rfl) (by rfl) VW_ NI_ R_ (noFrL_ok NI_) BK_ ?_) | (refine Seq.callo false [] [] (.bool true) (bH n D' ⟨R2,b2,x2,s2,false⟩) 15 (cs) Tryz.func13 gA_ok subG.nil (by rfl) (by rfl) rfl rfl rfl rfl rfl (by rfl) rfl (by rfl) (by rfl) (by rfl) (by rfl) VW_ NI_ R_ (noFrL_ok NI_) BK_ ?_) | (refine VC.litT (by rfl) LTR_ ?_) | (refine VC.litF (by rfl) LFA_ ?_) | fail)
        refine ⟨(k + 1,D',⟨R2,b2,x2,s2,false⟩),⟨(by omega : k + 1 ≤ l.length),gG,gJ⟩,(by omega : l.length - (k + 1) < l.length - k),?_⟩
        show ∀ a_1 w_1,_→Sim _ ⟨mE l (k + 1),bH n D' ⟨R2,b2,x2,s2,false⟩,gA,14⟩ a_1 w_1
        exact (Sim.less [] (by rfl) R_ R_)
    by_cases hK4 : (l.getD ((k : Nat) : Int).toNat jstZ).K = 4
    · have gG:=good_do hG (o:=opR (l.getD ((k : Nat) : Int).toNat jstZ).I (l.getD ((k : Nat) : Int).toNat jstZ).Bit) (opR_ok ho.i ho.b)
      have c1:=prot_ok hG (l.getD ((k : Nat) : Int).toNat jstZ).I (l.getD ((k : Nat) : Int).toNat jstZ).Bit
      have c2:=prrot_ok hG (l.getD ((k : Nat) : Int).toNat jstZ).I (l.getD ((k : Nat) : Int).toNat jstZ).Bit
      generalize doD n D (opR (l.getD ((k : Nat) : Int).toNat jstZ).I (l.getD ((k : Nat) : Int).toNat jstZ).Bit) = D' at *
      generalize doE n D (opR (l.getD ((k : Nat) : Int).toNat jstZ).I (l.getD ((k : Nat) : Int).toNat jstZ).Bit) = e at *
      have cs:=jsame_ok (D:=D') (J:=⟨R2,b2,x2,s2,h2⟩) (by omega) gJ (by omega)
      cases h2 with
      | true =>
        repeat' (first | (refine SS_ ?_) | (refine VC.drawE (id:=32) [(0,0),(1,0),(2,2),(3,0),(4,8),(6,0),(7,0),(8,128),(9,0),(10,512)] [6,7,8,9,10] 5 147 [11,12] (by rfl) (by kernel_rfl) (by rfl) (by rfl) (by rfl) (by rfl) ?_) | (refine DSeq.nil (late_callB false [] [] (.int .i64 e) (dD n D') 15 (c1) Tryz.func28 gA_ok subG.nil (by rfl) (by rfl) (by rfl) (by rfl) rfl rfl rfl rfl rfl (by rfl) (by rfl) (by rfl) (by rfl) (by rfl) VW_ NI_ R_ (noFrL_ok NI_) BK_ (by repeat (first | exact trivial | refine ⟨trivial,?_⟩ | refine ⟨lateX (by rfl) (late_evH true tt_ok (by rfl) (by rfl) (by rfl) (by rfl) (by (first | exact trivial | exact u8_in _ rfl | exact u32_in _ rfl | ((with_reducible refine AllP.guard ?_);simp only [AllP,inI,fitV,maxK,inK,inbL,inb,List.append,List.cons_append,List.nil_append,true_and,and_true];first | done | omega)))),?_⟩)) (by rfl) ?_)) | (refine Seq.callo false [(0,4),(1,5)] [(4,0),(5,1)] (.int .i64 e) (r5 n D') 15 (c2) Tryz.func29 gA_ok subG.nil (by rfl) (by rfl) rfl rfl rfl rfl rfl (by rfl) rfl (by rfl) (by rfl) (by rfl) (by rfl) VW_ NI_ R_ (noFrL_ok NI_) BK_ ?_) | (refine VC.litT (by rfl) LTR_ ?_) | (refine VC.litF (by rfl) LFA_ ?_) | (refine DD_ ?_) | fail)
        refine ⟨(k + 1,D',⟨R2,b2,x2,s2,true⟩),⟨(by omega : k + 1 ≤ l.length),gG,gJ⟩,(by omega : l.length - (k + 1) < l.length - k),?_⟩
        show ∀ a_1 w_1,_→Sim _ ⟨mE l (k + 1),bH n D' ⟨R2,b2,x2,s2,true⟩,gA,14⟩ a_1 w_1
        exact (Sim.less [] (by rfl) R_ R_)
      | false =>
        repeat' (first | (refine SS_ ?_) | (refine VC.drawE (id:=32) [(0,0),(1,0),(2,2),(3,0),(4,8),(6,0),(7,0),(8,128),(9,0),(10,512)] [6,7,8,9,10] 5 147 [11,12] (by rfl) (by kernel_rfl) (by rfl) (by rfl) (by rfl) (by rfl) ?_) | (refine DSeq.nil (late_callB false [] [] (.int .i64 e) (dD n D') 15 (c1) Tryz.func28 gA_ok subG.nil (by rfl) (by rfl) (by rfl) (by rfl) rfl rfl rfl rfl rfl (by rfl) (by rfl) (by rfl) (by rfl) (by rfl) VW_ NI_ R_ (noFrL_ok NI_) BK_ (by repeat (first | exact trivial | refine ⟨trivial,?_⟩ | refine ⟨lateX (by rfl) (late_evH true tt_ok (by rfl) (by rfl) (by rfl) (by rfl) (by (first | exact trivial | exact u8_in _ rfl | exact u32_in _ rfl | ((with_reducible refine AllP.guard ?_);simp only [AllP,inI,fitV,maxK,inK,inbL,inb,List.append,List.cons_append,List.nil_append,true_and,and_true];first | done | omega)))),?_⟩)) (by rfl) ?_)) | (refine Seq.callo false [(0,4),(1,5)] [(4,0),(5,1)] (.int .i64 e) (r5 n D') 15 (c2) Tryz.func29 gA_ok subG.nil (by rfl) (by rfl) rfl rfl rfl rfl rfl (by rfl) rfl (by rfl) (by rfl) (by rfl) (by rfl) VW_ NI_ R_ (noFrL_ok NI_) BK_ ?_) | (refine Seq.callo false [] [] (.bool true) (bH n D' ⟨R2,b2,x2,s2,false⟩) 15 (cs) Tryz.func13 gA_ok subG.nil (by rfl) (by rfl) rfl rfl rfl rfl rfl (by rfl) rfl (by rfl) (by rfl) (by rfl) (by rfl) VW_ NI_ R_ (noFrL_ok NI_) BK_ ?_) | (refine VC.litT (by rfl) LTR_ ?_) | (refine VC.litF (by rfl) LFA_ ?_) | (refine DD_ ?_) | fail)
        refine ⟨(k + 1,D',⟨R2,b2,x2,s2,false⟩),⟨(by omega : k + 1 ≤ l.length),gG,gJ⟩,(by omega : l.length - (k + 1) < l.length - k),?_⟩
        show ∀ a_1 w_1,_→Sim _ ⟨mE l (k + 1),bH n D' ⟨R2,b2,x2,s2,false⟩,gA,14⟩ a_1 w_1
        exact (Sim.less [] (by rfl) R_ R_)
    by_cases hK5 : (l.getD ((k : Nat) : Int).toNat jstZ).K = 5
    · have gG:=good_do hG (o:=opX (l.getD ((k : Nat) : Int).toNat jstZ).I) (opX_ok ho.i)
      have c1:=pwear_ok (n:=n) (D:=D) (l.getD ((k : Nat) : Int).toNat jstZ).I
      have c2:=prwear_ok (n:=n) (D:=D) (l.getD ((k : Nat) : Int).toNat jstZ).I
      generalize doD n D (opX (l.getD ((k : Nat) : Int).toNat jstZ).I) = D' at *
      generalize doE n D (opX (l.getD ((k : Nat) : Int).toNat jstZ).I) = e at *
      have cs:=jsame_ok (D:=D') (J:=⟨R2,b2,x2,s2,h2⟩) (by omega) gJ (by omega)
      cases h2 with
      | true =>
        repeat' (first | (refine SS_ ?_) | (refine VC.drawE (id:=35) [(0,0),(1,0),(2,2),(4,0),(5,0),(6,32)] [4,5,6] 3 160 [7,8] (by rfl) (by kernel_rfl) (by rfl) (by rfl) (by rfl) (by rfl) ?_) | (refine DSeq.nil (late_callB false [] [] (.int .i64 e) (dD n D') 15 (c1) Tryz.func30 gA_ok subG.nil (by rfl) (by rfl) (by rfl) (by rfl) rfl rfl rfl rfl rfl (by rfl) (by rfl) (by rfl) (by rfl) (by rfl) VW_ NI_ R_ (noFrL_ok NI_) BK_ (by repeat (first | exact trivial | refine ⟨trivial,?_⟩ | refine ⟨lateX (by rfl) (late_evH true tt_ok (by rfl) (by rfl) (by rfl) (by rfl) (by (first | exact trivial | exact u8_in _ rfl | exact u32_in _ rfl | ((with_reducible refine AllP.guard ?_);simp only [AllP,inI,fitV,maxK,inK,inbL,inb,List.append,List.cons_append,List.nil_append,true_and,and_true];first | done | omega)))),?_⟩)) (by rfl) ?_)) | (refine Seq.callo false [(0,4),(1,5)] [(4,0),(5,1)] (.int .i64 e) (r5 n D') 15 (c2) Tryz.func31 gA_ok subG.nil (by rfl) (by rfl) rfl rfl rfl rfl rfl (by rfl) rfl (by rfl) (by rfl) (by rfl) (by rfl) VW_ NI_ R_ (noFrL_ok NI_) BK_ ?_) | (refine VC.litT (by rfl) LTR_ ?_) | (refine VC.litF (by rfl) LFA_ ?_) | (refine DD_ ?_) | fail)
        refine ⟨(k + 1,D',⟨R2,b2,x2,s2,true⟩),⟨(by omega : k + 1 ≤ l.length),gG,gJ⟩,(by omega : l.length - (k + 1) < l.length - k),?_⟩
        show ∀ a_1 w_1,_→Sim _ ⟨mE l (k + 1),bH n D' ⟨R2,b2,x2,s2,true⟩,gA,14⟩ a_1 w_1
        exact (Sim.less [] (by rfl) R_ R_)
      | false =>
        repeat' (first | (refine SS_ ?_) | (refine VC.drawE (id:=35) [(0,0),(1,0),(2,2),(4,0),(5,0),(6,32)] [4,5,6] 3 160 [7,8] (by rfl) (by kernel_rfl) (by rfl) (by rfl) (by rfl) (by rfl) ?_) | (refine DSeq.nil (late_callB false [] [] (.int .i64 e) (dD n D') 15 (c1) Tryz.func30 gA_ok subG.nil (by rfl) (by rfl) (by rfl) (by rfl) rfl rfl rfl rfl rfl (by rfl) (by rfl) (by rfl) (by rfl) (by rfl) VW_ NI_ R_ (noFrL_ok NI_) BK_ (by repeat (first | exact trivial | refine ⟨trivial,?_⟩ | refine ⟨lateX (by rfl) (late_evH true tt_ok (by rfl) (by rfl) (by rfl) (by rfl) (by (first | exact trivial | exact u8_in _ rfl | exact u32_in _ rfl | ((with_reducible refine AllP.guard ?_);simp only [AllP,inI,fitV,maxK,inK,inbL,inb,List.append,List.cons_append,List.nil_append,true_and,and_true];first | done | omega)))),?_⟩)) (by rfl) ?_)) | (refine Seq.callo false [(0,4),(1,5)] [(4,0),(5,1)] (.int .i64 e) (r5 n D') 15 (c2) Tryz.func31 gA_ok subG.nil (by rfl) (by rfl) rfl rfl rfl rfl rfl (by rfl) rfl (by rfl) (by rfl) (by rfl) (by rfl) VW_ NI_ R_ (noFrL_ok NI_) BK_ ?_) | (refine Seq.callo false [] [] (.bool true) (bH n D' ⟨R2,b2,x2,s2,false⟩) 15 (cs) Tryz.func13 gA_ok subG.nil (by rfl) (by rfl) rfl rfl rfl rfl rfl (by rfl) rfl (by rfl) (by rfl) (by rfl) (by rfl) VW_ NI_ R_ (noFrL_ok NI_) BK_ ?_) | (refine VC.litT (by rfl) LTR_ ?_) | (refine VC.litF (by rfl) LFA_ ?_) | (refine DD_ ?_) | fail)
        refine ⟨(k + 1,D',⟨R2,b2,x2,s2,false⟩),⟨(by omega : k + 1 ≤ l.length),gG,gJ⟩,(by omega : l.length - (k + 1) < l.length - k),?_⟩
        show ∀ a_1 w_1,_→Sim _ ⟨mE l (k + 1),bH n D' ⟨R2,b2,x2,s2,false⟩,gA,14⟩ a_1 w_1
        exact (Sim.less [] (by rfl) R_ R_)
    have cs:=jsame_ok (D:=D) (J:=⟨R2,b2,x2,s2,h2⟩) (by omega) gJ (by omega)
    cases h2 with
    | true =>
      repeat' (first | (refine SS_ ?_) | (refine VC.litT (by rfl) LTR_ ?_) | (refine VC.litF (by rfl) LFA_ ?_) | fail)
      refine ⟨(k + 1,D,⟨R2,b2,x2,s2,true⟩),⟨(by omega : k + 1 ≤ l.length),hG,gJ⟩,(by omega : l.length - (k + 1) < l.length - k),?_⟩
      show ∀ a_1 w_1,_→Sim _ ⟨mE l (k + 1),bH n D ⟨R2,b2,x2,s2,true⟩,gA,14⟩ a_1 w_1
      exact (Sim.less [] (by rfl) R_ R_)
    | false =>
      repeat' (first | (refine SS_ ?_) | (refine Seq.callo false [] [] (.bool true) (bH n D ⟨R2,b2,x2,s2,false⟩) 15 (cs) Tryz.func13 gA_ok subG.nil (by rfl) (by rfl) rfl rfl rfl rfl rfl (by rfl) rfl (by rfl) (by rfl) (by rfl) (by rfl) VW_ NI_ R_ (noFrL_ok NI_) BK_ ?_) | (refine VC.litT (by rfl) LTR_ ?_) | (refine VC.litF (by rfl) LFA_ ?_) | fail)
      refine ⟨(k + 1,D,⟨R2,b2,x2,s2,false⟩),⟨(by omega : k + 1 ≤ l.length),hG,gJ⟩,(by omega : l.length - (k + 1) < l.length - k),?_⟩
      show ∀ a_1 w_1,_→Sim _ ⟨mE l (k + 1),bH n D ⟨R2,b2,x2,s2,false⟩,gA,14⟩ a_1 w_1
      exact (Sim.less [] (by rfl) R_ R_)
  · obtain rfl : k = l.length:=by omega
    have ci:=image_ok (n:=n) (B:=D.B) (P:=D.P) (W:=D.W) (off:=D.off) (left:=D.left) hG.len hG.b64 hG.n1
    have cri:=rimage_ok (n:=n) (S:=secs n D.B D.P D.W) (off:=D.off) (left:=max (-1) D.left) hG.n1
    rw [show (fun i=>AV.str ((secs n D.B D.P D.W).getD i secZ).T) = (fun i=>AV.str (D.B.getD i [])) from funext fun i=>by
      by_cases hi : i < n
      · rw [secs_get hi];rfl
      · rw [List.getD_eq_getElem?_getD,List.getElem?_eq_none (by rw [secs_len];omega),List.getD_eq_getElem?_getD,List.getElem?_eq_none (by rw [hG.len];omega)];rfl] at cri
    have s1:=sameTx_ok D.B D.B (by rw [hG.len];omega) (by rw [hG.len];omega)
    rw [decide_eq_true rfl,hG.len] at s1
    repeat' (first | (refine SS_ ?_) | (refine Seq.callp false (csan) Tryz.func6 gA_ok gK_sub (by rfl) (by rfl) rfl rfl rfl rfl rfl (by rfl) rfl VW_ NI_ NI_ FR_ ?_) | (refine Seq.callo false [] [(14,4)] (.sl 14 [] 1 0 n) ((14,strO n D.B)::dD n D) 15 (ci) Tryz.func23 gA_ok subG.nil (by rfl) (by rfl) rfl rfl rfl rfl rfl (by rfl) rfl (by rfl) (by rfl) (by rfl) (by rfl) VW_ NI_ R_ (noFrL_ok NI_) BK_ ?_) | (refine Seq.callo false [(0,4),(1,5)] [(4,0),(5,1),(15,2)] (.sl 15 [] 1 0 n) ((15,strO n D.B)::r5 n D) 16 (cri) Tryz.func32 gA_ok subG.nil (by rfl) (by rfl) rfl rfl rfl rfl rfl (by rfl) rfl (by rfl) (by rfl) (by rfl) (by rfl) VW_ NI_ R_ (noFrL_ok NI_) BK_ ?_) | (refine Seq.callp true (s1) Tryz.func15 gA_ok subG.nil (by rfl) (by rfl) rfl rfl rfl rfl rfl (by rfl) rfl VW_ NI_ NI_ FR_ ?_) | (refine VC.litF (by rfl) LFA_ ?_) | fail)
    (refine retC_mk ([(4,.bool true)]) ([]) 16 (Sim.less [] (by rfl) R_ R_) (retQ_ok (by rfl) ([]) (fun i av h=>h) ⟨?_,?_⟩)) <;> rfl
theorem matches_law (s : Int) (hs : I64 s) (l : List JStep) (hl : l.length ≤ 9223372036854775807∧∀ o ∈ l,StepOk o) : Ok Tryz.prog 5 gA [] (.pair (.int .i64 s) (.pair (stepsA l) .nul)) (fun r h'=>r = .bool true∧h' = []):=by
  by_cases h : 200 < s ∨ fewB l = false ∨ s < 1
  · exact matches_out s l hl.1 h
  · obtain ⟨n,rfl⟩ : ∃ n : Nat,s = n:=⟨s.toNat,by omega⟩
    have hf : fewB l = true:=by
      cases hq : fewB l with
      | true=>rfl
      | false=>exact absurd (.inr (.inl hq)) h
    have hl2 : l.length ≤ 30:=(of_decide_eq_true hf).2
    exact matches_main n (by omega) (by omega) l hl2 hf hl.2 (fun o ho=>(hl.2 o ho).p)
end Go.Proofs.YtmbldnahcmkpgaaGreatDoor
