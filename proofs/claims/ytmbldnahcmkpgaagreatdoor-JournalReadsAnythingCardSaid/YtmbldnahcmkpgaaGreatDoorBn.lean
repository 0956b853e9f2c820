/- JournalReadsAnything. -/
import Derived.Test.YtmbldnahcmkpgaaGreatDoorAx
set_option linter.unusedSimpArgs false
set_option linter.unusedVariables false
namespace Go.Proofs.YtmbldnahcmkpgaaGreatDoor
open Go.V Go.RowKit Go.L Go.Lx Go.Jn Go.Dk
set_option maxRecDepth 20000
set_option maxHeartbeats 4000000
theorem rnew_bad (s : Int) (h0 : s < 1 ∨ 4096 < s) : Ok Tryz.prog 8 [] [] (.pair (.int .i64 s) .nul) (fun r h'=>r = .tup (.pair (.val (.pointer none)) (.pair (.int .i64 1) .nul))∧h' = []):=by
  refine Ok.of_vcC tt_ok Tryz.func8 rfl rfl (by show 1 ≤ _;decide) 0 (hlt_ok (by rfl)) fun c0=>?_
  repeat' (first | (refine SS_ ?_) | (refine VC.litT (by rfl) LTR_ ?_) | (refine Seq.litC (by rfl) (by rfl) (fun hb=>?_) (fun hb=>?_) <;> (fail_if_success (with_reducible have:=litT_ hb)) <;> (fail_if_success (with_reducible have:=litF_ hb)) <;> (try simp only [HB_] at hb) <;> (try (exfalso;first | omega | (cases hb;done)))) | fail)
  all_goals (refine retC_mk ([(2,.val (.pointer none)),(3,.int .i64 1)]) ([]) 0 (Sim.less [] (by rfl) R_ R_) (retQ_ok (by rfl) ([]) (fun i av h=>h) ⟨?_,?_⟩)) <;> rfl
def wrX (n : Nat) (D : Disk) (i : Int) (s : Bs) : Disk:=⟨D.B,if wrE n D.off D.left i s = 0 then mSet D.P i s else D.P,D.W,if wrGo n D.off i s = true then stpO D.off D.left else D.off,if wrGo n D.off i s = true then stpL D.left else D.left⟩
section
variable {n : Nat} {D : Disk}
theorem pwrite_ok (h : GoodD n D) (i : Int) (s : Bs) : Ok Tryz.prog 9 [] (dD n D) (.pair (.ptr 0 []) (.pair (.int .i64 i) (.pair (.str s) .nul))) (fun r h'=>r = .int .i64 (wrE n D.off D.left i s)∧h' = dD n (wrX n D i s)):=write_ok h.l64 i s
theorem prwrite_ok (hG : GoodD n D) (i : Int) (s : Bs) : Ok Tryz.prog 10 [] (rDD n D) (.pair (.ptr 0 []) (.pair (.int .i64 i) (.pair (.str s) .nul))) (fun r h'=>r = .int .i64 (wrE n D.off D.left i s)∧h' = rDD n (wrX n D i s)):=by
  obtain ⟨B,P,W,off,left⟩:=D
  have h : Good n B P W left:=hG
  obtain ⟨e1,e2,e3⟩:=stp_left left
  have hw : wrE n off (max (-1) left) i s = wrE n off left i s:=by unfold wrE;rw [e1]
  have c:=rwrite_ok (n:=n) (S:=secs n B P W) (off:=off) (left:=max (-1) left) secs_len (max_64 h.l64) i s
  rw [hw,e2,e3] at c
  have hsS : (if wrE n off left i s = 0 then wrS (secs n B P W) i s else secs n B P W) = secs n B (if wrE n off left i s = 0 then mSet P i s else P) W:=by
    by_cases he : wrE n off left i s = 0
    · rw [if_pos he,if_pos he]
      have hc : chk n off i = 0:=by
        unfold wrE at he
        by_cases hc : chk n off i = 0
        · exact hc
        · rw [if_pos hc] at he;exact absurd he hc
      obtain ⟨_,hb⟩:=chk_zero hc
      exact write_secs hb.1 hb.2 _
    · rw [if_neg he,if_neg he]
  have hl : (if wrGo n off i s = true then max (-1) (stpL left) else max (-1) left) = max (-1) (if wrGo n off i s = true then stpL left else left):=by
    split <;> rfl
  rw [hsS,hl] at c
  exact c
structure ReadI (n : Nat) (D : Disk) : Prop where
  good : GoodD n D
  on : D.off = false
  left : D.left = -1
theorem ReadI.step (h : ReadI n D) (i : Int) (s : Bs) (hi : i64B i) : ReadI n (wrX n D i s):=by
  have ho:=h.on;have hl:=h.left
  refine ⟨?_,?_,?_⟩
  · by_cases hs : s.length = 64
    · have:=good_do h.good (opW_ok hi (by omega : s.length ≤ 9223372036854775807))
      unfold doD opW at this
      rw [if_pos rfl,textS_64 hs] at this
      exact this
    · have e1 : wrGo n D.off i s = false:=by unfold wrGo;rw [decide_eq_false hs,Bool.and_false]
      have e2 : wrE n D.off D.left i s ≠ 0:=by
        unfold wrE
        by_cases hc : chk n D.off i ≠ 0
        · rw [if_pos hc];exact hc
        · rw [if_neg hc,if_pos hs];decide
      have : wrX n D i s = D:=by
        unfold wrX
        rw [e1,if_neg e2,if_neg (show ¬ false = true by decide),if_neg (show ¬ false = true by decide)]
      rw [this];exact h.good
  · show (if wrGo n D.off i s = true then stpO D.off D.left else D.off) = false
    rw [ho,hl];split <;> rfl
  · show (if wrGo n D.off i s = true then stpL D.left else D.left) = -1
    rw [hl];split <;> rfl
end
theorem readI_new {n : Nat} (h1 : 1 ≤ n) (h2 : n ≤ 4096) : ReadI n (wornD n []):=⟨good_worn0 h1 h2,rfl,rfl⟩
theorem reads_law (l : List Bs) (hl : l.length ≤ 9223372036854775807) (hls : ∀ s ∈ l,s.length ≤ 9223372036854775807) : Ok Tryz.prog 3 gA [] (.pair (txV l) .nul) (fun r h'=>r = .bool true∧h' = []):=by
  have csan:=sanity_ok
  by_cases h1 : 40 < l.length
  · refine Ok.of_vcC tt_ok Tryz.func3 rfl rfl (by show 1 ≤ _;decide) 0 (hlt_ok (by rfl)) fun c0=>?_
    repeat' (first | (refine SS_ ?_) | (refine Seq.callp false (csan) Tryz.func6 gA_ok gK_sub (by rfl) (by rfl) rfl rfl rfl rfl rfl (by rfl) rfl VW_ NI_ NI_ FR_ ?_) | (refine Seq.lit (by rfl) (by rfl) LT2_ ?_) | (refine VC.litT (by rfl) LTR_ ?_) | fail)
    (refine retC_mk ([(2,.bool true)]) ([]) 0 (Sim.less [] (by rfl) R_ R_) (retQ_ok (by rfl) ([]) (fun i av h=>h) ⟨?_,?_⟩)) <;> rfl
  by_cases h2 : l.length = 0
  · refine Ok.of_vcC tt_ok Tryz.func3 rfl rfl (by show 1 ≤ _;decide) 0 (hlt_ok (by rfl)) fun c0=>?_
    repeat' (first | (refine SS_ ?_) | (refine Seq.callp false (csan) Tryz.func6 gA_ok gK_sub (by rfl) (by rfl) rfl rfl rfl rfl rfl (by rfl) rfl VW_ NI_ NI_ FR_ ?_) | (refine Seq.lit (by rfl) (by rfl) LT2_ ?_) | (refine VC.litT (by rfl) LTR_ ?_) | fail)
    (refine retC_mk ([(2,.bool true)]) ([]) 0 (Sim.less [] (by rfl) R_ R_) (retQ_ok (by rfl) ([]) (fun i av h=>h) ⟨?_,?_⟩)) <;> rfl
  obtain ⟨n,hn⟩ : ∃ n,n = l.length:=⟨_,rfl⟩
  have cn:=new_ok (n : Nat) (by omega) (by omega)
  have crn:=rnew_ok (n : Nat) (by omega) (by omega)
  rw [Int.toNat_natCast] at cn crn
  rw [hn] at cn crn
  have crn : Ok Tryz.prog 8 [] [] (.pair (.int .i64 (l.length : Nat)) .nul) (fun r h'=>r = .tup (.pair (.ptr 0 []) (.pair (.int .i64 0) .nul))∧h' = rDD l.length (wornD l.length [])):=by
    rw [← secs_new] at crn
    exact crn
  refine Ok.of_vcC tt_ok Tryz.func3 rfl rfl (by show 1 ≤ _;decide) 0 (hlt_ok (by rfl)) fun c0=>?_
  repeat' (first | (refine SS_ ?_) | (refine Seq.callo false [] [(0,3),(1,0),(2,1),(3,2)] (.tup (.pair (.ptr 0 []) (.pair (.int .i64 0) .nul))) (dD l.length (wornD l.length [])) 4 (cn) Tryz.func7 gA_ok subG.nil (by rfl) (by rfl) rfl rfl rfl rfl rfl (by rfl) rfl (by rfl) (by rfl) (by rfl) (by rfl) VW_ NI_ R_ (noFrL_ok NI_) BK_ ?_) | (refine Seq.callo false [] [(4,0),(5,1)] (.tup (.pair (.ptr 4 []) (.pair (.int .i64 0) .nul))) (r5 l.length (wornD l.length [])) 6 (crn) Tryz.func8 gA_ok subG.nil (by rfl) (by rfl) rfl rfl rfl rfl rfl (by rfl) rfl (by rfl) (by rfl) (by rfl) (by rfl) VW_ NI_ R_ (noFrL_ok NI_) BK_ ?_) | (refine Seq.lit (by rfl) (by rfl) LT2_ ?_) | (refine VC.litF (by rfl) LFA_ ?_) | fail)
  refine VC.loop (fun x : Nat × Disk=>⟨[(42,.int .i64 (x.1 : Nat)),(41,.int .i64 l.length),(40,txV l),(5,.ptr 4 []),(3,.ptr 0 [])],bD l.length x.2,gA,6⟩) (fun x=>x.1 ≤ l.length∧ReadI l.length x.2) (fun x=>l.length - x.1) (0,wornD l.length []) ⟨Nat.zero_le _,readI_new (by omega) (by omega)⟩ (Sim.less [] (by rfl) R_ R_) fun x hx=>?_
  obtain ⟨k,D⟩:=x
  obtain ⟨hk,hI⟩:=hx
  have hk : k ≤ l.length:=hk
  have hI : ReadI l.length D:=hI
  show VC _ _ _ ⟨[(42,.int .i64 (k : Nat)),(41,.int .i64 l.length),(40,txV l),(5,.ptr 4 []),(3,.ptr 0 [])],bD l.length D,gA,6⟩
  by_cases hkl : k < l.length
  · have cw:=pwrite_ok hI.good (k : Nat) (l.getD ((k : Nat) : Int).toNat [])
    have crw:=prwrite_ok hI.good (k : Nat) (l.getD ((k : Nat) : Int).toNat [])
    have hst:=hI.step (k : Nat) (l.getD ((k : Nat) : Int).toNat []) ⟨by omega,by omega⟩
    generalize wrX l.length D (k : Nat) (l.getD ((k : Nat) : Int).toNat []) = D' at *
    generalize wrE l.length D.off D.left (k : Nat) (l.getD ((k : Nat) : Int).toNat []) = e at *
    repeat' (first | (refine SS_ ?_) | (refine Seq.callo false [] [] (.int .i64 e) (dD l.length D') 6 (cw) Tryz.func9 gA_ok subG.nil (by rfl) (by rfl) rfl rfl rfl rfl rfl (by rfl) rfl (by rfl) (by rfl) (by rfl) (by rfl) VW_ NI_ R_ (noFrL_ok NI_) BK_ ?_) | (refine Seq.callo false [(0,4),(1,5)] [(4,0),(5,1)] (.int .i64 e) (r5 l.length D') 6 (crw) Tryz.func10 gA_ok subG.nil (by rfl) (by rfl) rfl rfl rfl rfl rfl (by rfl) rfl (by rfl) (by rfl) (by rfl) (by rfl) VW_ NI_ R_ (noFrL_ok NI_) BK_ ?_) | (refine VC.litT (by rfl) LTR_ ?_) | (refine VC.litF (by rfl) LFA_ ?_) | fail)
    refine ⟨(k + 1,D'),⟨(by omega : k + 1 ≤ l.length),hst⟩,(by omega : l.length - (k + 1) < l.length - k),?_⟩
    show ∀ a_1 w_1,_→Sim _ ⟨[(42,.int .i64 ((k + 1 : Nat) : Int)),(41,.int .i64 l.length),(40,txV l),(5,.ptr 4 []),(3,.ptr 0 [])],bD l.length D',gA,6⟩ a_1 w_1
    exact (Sim.less [] (by rfl) R_ R_)
  · have co:=open_ok hI.good hI.on
    have cro:=ropen_ok (left:=max (-1) D.left) hI.good hI.on
    have hJ:=opn_ok (rdL_len l.length D)
    generalize opn (rdL l.length D) = J at *
    have cs:=jsame_ok (D:=D) (J:=J) (by omega : l.length ≤ 4096) hJ (by omega)
    repeat' (first | (refine SS_ ?_) | (refine Seq.callo false [] [(6,4),(7,5),(8,6),(9,7)] (.tup (.pair (.ptr 6 []) (.pair (.int .i64 0) .nul))) (jP l.length D J) 10 (co) Tryz.func11 gA_ok gK_sub (by rfl) (by rfl) rfl rfl rfl rfl rfl (by rfl) rfl (by rfl) (by rfl) (by rfl) (by rfl) VW_ NI_ R_ (noFrL_ok NI_) BK_ ?_) | (refine Seq.callo false [(0,4),(1,5)] [(4,0),(5,1),(10,2),(11,3),(12,4),(13,5)] (.tup (.pair (.ptr 10 []) (.pair (.int .i64 0) .nul))) (rP l.length D J) 14 (cro) Tryz.func12 gA_ok gR_sub (by rfl) (by rfl) rfl rfl rfl rfl rfl (by rfl) rfl (by rfl) (by rfl) (by rfl) (by rfl) VW_ NI_ R_ (noFrL_ok NI_) BK_ ?_) | (refine Seq.callp false (csan) Tryz.func6 gA_ok gK_sub (by rfl) (by rfl) rfl rfl rfl rfl rfl (by rfl) rfl VW_ NI_ NI_ FR_ ?_) | (refine Seq.callo false [] [] (.bool true) (bH l.length D J) 14 (cs) Tryz.func13 gA_ok subG.nil (by rfl) (by rfl) rfl rfl rfl rfl rfl (by rfl) rfl (by rfl) (by rfl) (by rfl) (by rfl) VW_ NI_ R_ (noFrL_ok NI_) BK_ ?_) | (refine VC.litF (by rfl) LFA_ ?_) | fail)
    (refine retC_mk ([(2,.bool true)]) ([]) 14 (Sim.less [] (by rfl) R_ R_) (retQ_ok (by rfl) ([]) (fun i av h=>h) ⟨?_,?_⟩)) <;> rfl
end Go.Proofs.YtmbldnahcmkpgaaGreatDoor
