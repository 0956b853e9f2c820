/- The reference's disks: Mount, Flush, Rot. -/
import Derived.Test.YtmbldnahcmkpgaaGreatDoorDi
set_option linter.unusedSimpArgs false
set_option linter.unusedVariables false
namespace Go.Proofs.YtmbldnahcmkpgaaGreatDoor
open Go.V Go.RowKit Go.L Go.Dk
variable {n : Nat} {S : List Sec} {off : Bool} {left : Int}
theorem rmt_good (picks : List Int) (h : RGood n S) : ∀ k,k ≤ n→RGood n (rmt picks k S).1∧(rmt picks k S).2 ≤ k
  | 0,_=>⟨h,Nat.le_refl _⟩
  | k + 1,hk=>by
    obtain ⟨h1,h2⟩:=rmt_good picks h k (by omega)
    rw [rmt]
    split
    · rename_i hd
      refine ⟨⟨by rw [List.length_set];exact h1.len,fun s hs=>?_,fun s hs hD=>?_⟩,by show _ + 1 ≤ _;omega⟩
      · rcases List.mem_or_eq_of_mem_set hs with hs | hs
        · exact h1.t64 s hs
        · have hm : (rmt picks k S).1.getD k secZ ∈ (rmt picks k S).1:=getD_mem (by rw [h1.len];omega)
          have h3:=h1.t64 _ hm
          have h4:=h1.x64 _ hm hd
          have:=upto_le (pickAt picks (rmt picks k S).2)
          rw [hs]
          show (if _ then _ else _ : Bs).length = 64
          split
          · exact h3
          · unfold tear
            rw [List.length_append,List.length_take,List.length_drop];omega
      · rcases List.mem_or_eq_of_mem_set hs with hs | hs
        · exact h1.x64 s hs hD
        · rw [hs] at hD;cases hD
    · exact ⟨h1,by omega⟩
set_option maxRecDepth 10000 in
set_option maxHeartbeats 2000000 in
theorem rmount_ok (h : RGood n S) (hn : n ≤ 4096) (picks : List Int) (hpl : picks.length ≤ 9223372036854775807) : Ok Tryz.prog 27 [] (rH n S off left) (.pair (.ptr 0 []) (.pair (.rsl false picks.length 1 (fun i=>.int .i64 (picks.getD i 0))) .nul))
    (fun r h'=>r = .tup .nul∧h' = rH n (rmt picks n S).1 false (-1)):=by
  have hg:=rmt_good picks h
  refine Ok.of_vcC tt_ok Tryz.func27 rfl rfl (by show 2 ≤ _;decide) 2 (hlt_ok (by rfl)) fun c0=>?_
  repeat' (first | (refine SS_ ?_) | fail)
  refine VC.loop (fun k : Nat=>⟨[(5,.int .i64 (k : Nat)),(4,.int .i64 ((rmt picks k S).2 : Nat)),(1,.rsl false picks.length 1 (fun i=>.int .i64 (picks.getD i 0))),(0,.ptr 0 [])],rH n (rmt picks k S).1 off left,[],2⟩) (fun k=>k ≤ n) (fun k=>n - k) 0 (by omega) (by
    (refine Sim.less [] (by rfl) ?_ ?_ <;> (repeat' (first | (exact EnvLe.nil) | (exact HeapLe.nil) | (with_reducible apply EnvLe.cons) | (with_reducible apply HeapLe.cons) | ((with_reducible refine RelA.int ?_;first | (refine Keep.mk ?_;first | with_reducible rfl | omega | decide) | skip)) | (exact rfl) | (exact ⟨rfl,rfl⟩) | ((with_reducible refine RelA.rsl ?_;intro i hi)) | ((with_reducible refine RelA.arr ?_;intro i hi)) | (with_reducible refine RelA.pair ?_ ?_) | fail)) <;> (try with_reducible refine Keep.mk ?_))
    all_goals exact rfl) fun k hk=>?_
  obtain ⟨h1,h2⟩:=hg k hk
  by_cases hkn : k < n
  · have hm : (rmt picks k S).1.getD k secZ ∈ (rmt picks k S).1:=getD_mem (by rw [h1.len];exact hkn)
    have h3:=h1.t64 _ hm
    have h4:=h1.x64 _ hm
    have hs : rmt picks (k + 1) S = if ((rmt picks k S).1.getD k secZ).D = true then ((rmt picks k S).1.set k (setl ((rmt picks k S).1.getD k secZ) (upto (pickAt picks (rmt picks k S).2))),(rmt picks k S).2 + 1) else rmt picks k S:=rfl
    generalize hS1 : rmt picks (k + 1) S = S1 at *
    generalize hS0 : rmt picks k S = S0 at *
    have hlen:=h1.len
    have hc : S0.2 ≤ 4096:=by omega
    by_cases hD : (S0.1.getD k secZ).D = true
    · have c2:=rsettle_ok (n:=n) (S:=S0.1) (off:=off) (left:=left) ((k : Nat) : Int) (pickAt picks S0.2) (by omega) (by omega) h1.len h3 (h4 hD)
      rw [if_pos hD] at hs
      rw [show (S0.1.set ((k : Nat) : Int).toNat (setl (S0.1.getD ((k : Nat) : Int).toNat secZ) (upto (pickAt picks S0.2)))) = S1.1 by rw [hs];rfl] at c2
      have hk2 : S1.2 = S0.2 + 1:=by rw [hs]
      unfold pickAt at c2
      by_cases hkp : S0.2 < picks.length
      · rw [if_pos hkp] at c2
        repeat' (first | (refine SS_ ?_) | (refine Seq.callo false [] [] (.tup .nul) (rH n S1.1 off left) 2 (c2) Tryz.func65 GOk.nil subG.nil (by rfl) (by rfl) rfl rfl rfl rfl rfl (by rfl) rfl (by rfl) (by rfl) (by rfl) (by rfl) VW_ NI_ R_ (noFrL_ok NI_) BK_ ?_) | (refine VC.litT (by rfl) LTR_ ?_) | (refine VC.cond (by rfl) (fun hb=>?_) (fun hb=>?_) <;> (fail_if_success (with_reducible have:=litT_ hb)) <;> (fail_if_success (with_reducible have:=litF_ hb)) <;> (try simp only [HB_] at hb) <;> (try (exfalso;first | omega | (cases hb;done)))) | fail)
        · rw [show 0 + ((k : Nat) : Int).toNat = k by omega,hD] at hb;cases hb
        · refine ⟨k + 1,by omega,by omega,?_⟩
          rw [hS1]
          exact (Sim.less [] (by rfl) R_ R_)
          all_goals first | omega | exact rel_sec
      · rw [if_neg hkp] at c2
        repeat' (first | (refine SS_ ?_) | (refine Seq.callo false [] [] (.tup .nul) (rH n S1.1 off left) 2 (c2) Tryz.func65 GOk.nil subG.nil (by rfl) (by rfl) rfl rfl rfl rfl rfl (by rfl) rfl (by rfl) (by rfl) (by rfl) (by rfl) VW_ NI_ R_ (noFrL_ok NI_) BK_ ?_) | (refine VC.litT (by rfl) LTR_ ?_) | (refine VC.litF (by rfl) LFA_ ?_) | (refine VC.cond (by rfl) (fun hb=>?_) (fun hb=>?_) <;> (fail_if_success (with_reducible have:=litT_ hb)) <;> (fail_if_success (with_reducible have:=litF_ hb)) <;> (try simp only [HB_] at hb) <;> (try (exfalso;first | omega | (cases hb;done)))) | fail)
        · rw [show 0 + ((k : Nat) : Int).toNat = k by omega,hD] at hb;cases hb
        · refine ⟨k + 1,by omega,by omega,?_⟩
          rw [hS1]
          exact (Sim.less [] (by rfl) R_ R_)
          all_goals first | omega | exact rel_sec
    · rw [if_neg hD] at hs
      repeat' (first | (refine SS_ ?_) | (refine VC.litT (by rfl) LTR_ ?_) | (refine VC.cond (by rfl) (fun hb=>?_) (fun hb=>?_) <;> (fail_if_success (with_reducible have:=litT_ hb)) <;> (fail_if_success (with_reducible have:=litF_ hb)) <;> (try simp only [HB_] at hb) <;> (try (exfalso;first | omega | (cases hb;done)))) | fail)
      · refine ⟨k + 1,by omega,by omega,?_⟩
        rw [hS1,hs]
        exact (Sim.less [] (by rfl) R_ R_)
        all_goals first | omega | exact rel_sec
      all_goals (rw [show 0 + ((k : Nat) : Int).toNat = k by omega] at *;simp_all)
  · repeat' (first | (refine SS_ ?_) | (refine VC.litF (by rfl) LFA_ ?_) | fail)
    have hk2 : k = n:=by omega
    subst hk2
    (refine retC_mk ([]) (rH k (rmt picks k S).1 false (-1)) 2 (Sim.less [] (by rfl) R_ R_) (retQ_ok (by rfl) (rH k (rmt picks k S).1 false (-1)) (fun i av h=>h) ⟨?_,?_⟩)) <;> rfl
set_option maxRecDepth 10000 in
set_option maxHeartbeats 2000000 in
theorem rflush_go (h : RGood n S) (hn : n ≤ 4096) (hl : i64B left) (ho : off = false) (hl0 : left ≠ 0) : Ok Tryz.prog 64 [] (rH n S off left) (.pair (.ptr 0 []) .nul)
    (fun r h'=>r = .int .i64 0∧h' = rH n (rmt [] n S).1 off (stpL left)):=by
  have hg:=rmt_good [] h
  have c1:=rstep_ok (n:=n) (S:=S) (off:=off) hl
  rw [show stpE left = 0 from if_neg hl0,show stpO off left = off from if_neg hl0] at c1
  refine Ok.of_vcC tt_ok Tryz.func64 rfl rfl (by show 1 ≤ _;decide) 2 (hlt_ok (by rfl)) fun c0=>?_
  repeat' (first | (refine SS_ ?_) | (refine Seq.callo false [] [] (.int .i64 0) (rH n S off (stpL left)) 2 (c1) Tryz.func45 GOk.nil subG.nil (by rfl) (by rfl) rfl rfl rfl rfl rfl (by rfl) rfl (by rfl) (by rfl) (by rfl) (by rfl) VW_ NI_ R_ (noFrL_ok NI_) BK_ ?_) | (refine VC.litF (by rfl) LFA_ ?_) | (refine VC.cond (by rfl) (fun hb=>?_) (fun hb=>?_) <;> (fail_if_success (with_reducible have:=litT_ hb)) <;> (fail_if_success (with_reducible have:=litF_ hb)) <;> (try simp only [HB_] at hb) <;> (try (exfalso;first | omega | (cases hb;done)))) | fail)
  · (rw [ho] at hb;cases hb;done)
  refine VC.loop (fun k : Nat=>⟨[(4,.int .i64 (k : Nat)),(0,.ptr 0 [])],rH n (rmt [] k S).1 off (stpL left),[],2⟩) (fun k=>k ≤ n) (fun k=>n - k) 0 (by omega) (by
    exact (Sim.less [] (by rfl) R_ R_)
    all_goals exact rfl) fun k hk=>?_
  obtain ⟨h1,h2⟩:=hg k hk
  by_cases hkn : k < n
  · have hm : (rmt [] k S).1.getD k secZ ∈ (rmt [] k S).1:=getD_mem (by rw [h1.len];exact hkn)
    have h3:=h1.t64 _ hm
    have h4:=h1.x64 _ hm
    have hs : rmt [] (k + 1) S = if ((rmt [] k S).1.getD k secZ).D = true then ((rmt [] k S).1.set k (setl ((rmt [] k S).1.getD k secZ) (upto (pickAt [] (rmt [] k S).2))),(rmt [] k S).2 + 1) else rmt [] k S:=rfl
    generalize hS1 : rmt [] (k + 1) S = S1 at *
    generalize hS0 : rmt [] k S = S0 at *
    have hlen:=h1.len
    have hc : S0.2 ≤ 4096:=by omega
    by_cases hD : (S0.1.getD k secZ).D = true
    · have c2:=rsettle_ok (n:=n) (S:=S0.1) (off:=off) (left:=stpL left) ((k : Nat) : Int) (pickAt [] S0.2) (by omega) (by omega) h1.len h3 (h4 hD)
      rw [if_pos hD] at hs
      rw [show (S0.1.set ((k : Nat) : Int).toNat (setl (S0.1.getD ((k : Nat) : Int).toNat secZ) (upto (pickAt [] S0.2)))) = S1.1 by rw [hs];rfl] at c2
      have hk2 : S1.2 = S0.2 + 1:=by rw [hs]
      unfold pickAt at c2
      rw [if_neg (by simp)] at c2
      repeat' (first | (refine SS_ ?_) | (refine Seq.callo false [] [] (.tup .nul) (rH n S1.1 off (stpL left)) 2 (c2) Tryz.func65 GOk.nil subG.nil (by rfl) (by rfl) rfl rfl rfl rfl rfl (by rfl) rfl (by rfl) (by rfl) (by rfl) (by rfl) VW_ NI_ R_ (noFrL_ok NI_) BK_ ?_) | (refine VC.litT (by rfl) LTR_ ?_) | (refine VC.cond (by rfl) (fun hb=>?_) (fun hb=>?_) <;> (fail_if_success (with_reducible have:=litT_ hb)) <;> (fail_if_success (with_reducible have:=litF_ hb)) <;> (try simp only [HB_] at hb) <;> (try (exfalso;first | omega | (cases hb;done)))) | fail)
      · refine ⟨k + 1,by omega,by omega,?_⟩
        rw [hS1]
        exact (Sim.less [] (by rfl) R_ R_)
        all_goals first | omega | exact rel_sec
      all_goals (rw [show 0 + ((k : Nat) : Int).toNat = k by omega] at *;simp_all)
    · rw [if_neg hD] at hs
      repeat' (first | (refine SS_ ?_) | (refine VC.litT (by rfl) LTR_ ?_) | (refine VC.cond (by rfl) (fun hb=>?_) (fun hb=>?_) <;> (fail_if_success (with_reducible have:=litT_ hb)) <;> (fail_if_success (with_reducible have:=litF_ hb)) <;> (try simp only [HB_] at hb) <;> (try (exfalso;first | omega | (cases hb;done)))) | fail)
      · (rw [show 0 + ((k : Nat) : Int).toNat = k by omega] at *;simp_all;done)
      · refine ⟨k + 1,by omega,by omega,?_⟩
        rw [hS1,hs]
        exact (Sim.less [] (by rfl) R_ R_)
        all_goals first | omega | exact rel_sec
  · repeat' (first | (refine SS_ ?_) | (refine VC.litF (by rfl) LFA_ ?_) | fail)
    have hk2 : k = n:=by omega
    subst hk2
    (refine retC_mk ([(2,.int .i64 0)]) (rH k (rmt [] k S).1 off (stpL left)) 2 (Sim.less [] (by rfl) R_ R_) (retQ_ok (by rfl) (rH k (rmt [] k S).1 off (stpL left)) (fun i av h=>h) ⟨?_,?_⟩)) <;> rfl
set_option maxRecDepth 10000 in
theorem rflush_off (ho : off = true) : Ok Tryz.prog 64 [] (rH n S off left) (.pair (.ptr 0 []) .nul)
    (fun r h'=>r = .int .i64 20∧h' = rH n S off left):=by
  subst ho
  refine Ok.of_vcC tt_ok Tryz.func64 rfl rfl (by show 1 ≤ _;decide) 2 (hlt_ok (by rfl)) fun c0=>?_
  repeat' (first | (refine SS_ ?_) | (refine VC.litT (by rfl) LTR_ ?_) | fail)
  (refine retC_mk ([(2,.int .i64 20)]) (rH n S true left) 2 (Sim.less [] (by rfl) R_ R_) (retQ_ok (by rfl) (rH n S true left) (fun i av h=>h) ⟨?_,?_⟩)) <;> rfl
set_option maxRecDepth 10000 in
theorem rflush_trip (ho : off = false) (hl : left = 0) : Ok Tryz.prog 64 [] (rH n S off left) (.pair (.ptr 0 []) .nul)
    (fun r h'=>r = .int .i64 20∧h' = rH n S true left):=by
  have c1:=rstep_ok (n:=n) (S:=S) (off:=off) (left:=left) (by rw [hl];constructor <;> decide)
  rw [show stpE left = 20 from if_pos hl,show stpO off left = true from if_pos hl,show stpL left = left from if_neg (by omega)] at c1
  subst ho
  refine Ok.of_vcC tt_ok Tryz.func64 rfl rfl (by show 1 ≤ _;decide) 2 (hlt_ok (by rfl)) fun c0=>?_
  repeat' (first | (refine SS_ ?_) | (refine Seq.callo false [] [] (.int .i64 20) (rH n S true left) 2 (c1) Tryz.func45 GOk.nil subG.nil (by rfl) (by rfl) rfl rfl rfl rfl rfl (by rfl) rfl (by rfl) (by rfl) (by rfl) (by rfl) VW_ NI_ R_ (noFrL_ok NI_) BK_ ?_) | (refine VC.litT (by rfl) LTR_ ?_) | (refine VC.litF (by rfl) LFA_ ?_) | fail)
  (refine retC_mk ([(2,.int .i64 20)]) (rH n S true left) 2 (Sim.less [] (by rfl) R_ R_) (retQ_ok (by rfl) (rH n S true left) (fun i av h=>h) ⟨?_,?_⟩)) <;> rfl
end Go.Proofs.YtmbldnahcmkpgaaGreatDoor
