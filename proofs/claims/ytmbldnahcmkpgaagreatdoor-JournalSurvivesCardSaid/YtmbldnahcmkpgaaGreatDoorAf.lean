/- Journals: the sectors of a record (parts, Pack). -/
import Derived.Test.YtmbldnahcmkpgaaGreatDoorAe
set_option linter.unusedSimpArgs false
set_option linter.unusedVariables false
namespace Go.Proofs.YtmbldnahcmkpgaaGreatDoor
open Go.V Go.RowKit Go.L Go.Lx Go.Jn Go.Dk
set_option maxRecDepth 10000
set_option maxHeartbeats 4000000
theorem putAt_at {a b x : Bs} {o : Nat} (h : o = a.length) : putAt (a ++ b) o x = a ++ (x ++ b.drop x.length):=by
  unfold putAt
  subst h
  rw [List.take_left',List.drop_append,List.drop_eq_nil_of_le (by omega),Nat.add_sub_cancel_left]
  · rfl
  · rfl
def s0 : Bs:=List.replicate 64 0
def s1 (n : Nat) : Bs:=putAt s0 0 (small n 4)
def s2 (n k : Nat) : Bs:=putAt (s1 n) 4 (small k 2)
def s3 (n k : Nat) (r : Bs) : Bs:=putAt (s2 n k) 6 (small r.length 2)
def s4 (n k : Nat) (r : Bs) : Bs:=putAt (s3 n k r) 8 (r.take 48)
def s5 (n k : Nat) (r : Bs) : Bs:=putAt (s4 n k r) 56 (sum8 ((s4 n k r).take 56))
theorem s4_eq (n k : Nat) (r : Bs) : s4 n k r = hd n k r ++ List.replicate 8 0:=by
  unfold s4 s3 s2 s1 s0 hd pay
  have h1:=small_len n 4
  have h2:=small_len k 2
  have h3:=small_len r.length 2
  generalize small n 4 = x at *
  generalize small k 2 = y at *
  generalize small r.length 2 = z at *
  rw [show putAt (List.replicate 64 (0 : UInt8)) 0 x = _ from putAt_at (a:=[]) (b:=List.replicate 64 0) rfl,List.nil_append,h1,List.drop_replicate]
  rw [putAt_at (by rw [h1]),h2,List.drop_replicate,← List.append_assoc,putAt_at (by rw [List.length_append,h1,h2]),h3,List.drop_replicate,← List.append_assoc,putAt_at (by simp only [List.length_append,h1,h2,h3]),List.drop_replicate]
  simp only [List.append_assoc,List.length_take]
  congr 4
  rw [List.replicate_append_replicate]
  congr 1
  omega
theorem s4_take (n k : Nat) (r : Bs) : (s4 n k r).take 56 = hd n k r:=by rw [s4_eq,List.take_left' (hd_len n k r)]
theorem s5_eq (n k : Nat) (r : Bs) : s5 n k r = sec n k r:=by
  unfold s5
  rw [s4_take,s4_eq,putAt_at (by rw [hd_len]),sum8_len]
  unfold sec chkd
  simp
theorem s1_len (n : Nat) : (s1 n).length = 64:=by unfold s1;rw [putAt_len (by rw [small_len];decide)];rfl
theorem s2_len (n k : Nat) : (s2 n k).length = 64:=by unfold s2;rw [putAt_len (by rw [small_len,s1_len];decide),s1_len]
theorem s3_len (n k : Nat) (r : Bs) : (s3 n k r).length = 64:=by unfold s3;rw [putAt_len (by rw [small_len,s2_len];decide),s2_len]
theorem s4_len (n k : Nat) (r : Bs) : (s4 n k r).length = 64:=by rw [s4_eq,List.length_append,hd_len];rfl
theorem putAt_get {b x : Bs} {o i : Nat} (h : o + x.length ≤ b.length) : (putAt b o x).getD i 0 = if o ≤ i∧i < o + x.length then x.getD (i - o) 0 else b.getD i 0:=by
  have h1 : (b.take o).length = o:=by rw [List.length_take];omega
  unfold putAt
  simp only [List.getD_eq_getElem?_getD]
  by_cases hi : o ≤ i
  · rw [List.getElem?_append_right (by omega),h1]
    by_cases h2 : i < o + x.length
    · rw [if_pos ⟨hi,h2⟩,List.getElem?_append_left (by omega)]
    · rw [if_neg (by omega),List.getElem?_append_right (by omega),List.getElem?_drop]
      congr 2;omega
  · rw [if_neg (by omega),List.getElem?_append_left (by omega),List.getElem?_take_of_lt (by omega)]
theorem rel_cp {A : Nat→Prop} {σ : Nat→Nat} {b x : Bs} {o q i : Nat} {K : Nat→AV} (hq : q ≤ x.length) (h : o + q ≤ b.length) (hK : ∀ j,K j = .int .u8 ((x.getD j 0).toNat : Nat)) : RelA A σ (.int .u8 (((putAt b o (x.take q)).getD i 0).toNat : Nat)) (cpF o q K (fun i=>.int .u8 ((b.getD i 0).toNat : Nat)) i):=by
  have hl : (x.take q).length = q:=by rw [List.length_take];omega
  rw [putAt_get (by omega),hl]
  by_cases hi : o ≤ i∧i < o + q
  · rw [if_pos hi,cpF_in hi.1 hi.2,hK]
    rw [show (x.take q).getD (i - o) 0 = x.getD (i - o) 0 by rw [List.getD_eq_getElem?_getD,List.getElem?_take_of_lt (by omega),← List.getD_eq_getElem?_getD]]
    exact rfl
  · rw [if_neg hi,cpF_out (by omega)];exact rfl
theorem parts_ok (n : Int) (t : Bs) : Ok Tryz.prog 72 [] [] (.pair (.int .i64 n) (.pair (.str t) .nul)) (fun r h'=>r = .fn (.func 89) .nul (.pair (.ptr 1 []) (.pair (.ptr 0 []) .nul))∧h' = [(0,.int .i64 n),(1,.str t)]):=by
  refine Ok.of_vcC tt_ok Tryz.func72 rfl rfl (by show 2 ≤ _;decide) 0 (hlt_ok (by rfl)) fun c0=>?_
  repeat' (first | (refine SS_ ?_) | fail)
  (refine retC_mk ([(4,.fn (.func 89) .nul (.pair (.ptr 1 []) (.pair (.ptr 0 []) .nul)))]) ([(0,.int .i64 n),(1,.str t)]) 2 (Sim.less [] (by rfl) R_ R_) (retQ_ok (by rfl) ([(0,.int .i64 n),(1,.str t)]) (fun i av h=>h) ⟨?_,?_⟩)) <;> rfl
abbrev txV (L : List Bs) : AV:=.rsl false L.length 1 (fun i=>.str (L.getD i []))
abbrev txT (L : List Bs) : AV:=.rsl true L.length 1 (fun i=>.str (L.getD i []))
def packE (n : Int) (t : Bs) : Int:=if n < 1 ∨ 4096 < n then 1 else if 8000 < t.length then 4 else 0
theorem pack_own (n : Nat) (t : Bs) (h0 : 1 ≤ n) (h1 : n ≤ 4096) (ht : t.length ≤ 8000) : Ok Tryz.prog 36 gK [] (.pair (.int .i64 (n : Nat)) (.pair (.str t) .nul)) (fun r h'=>r = .tup (.pair (.sl 5 [] 1 0 (parts n t).length) (.pair (.int .i64 0) .nul))∧h' = [(5,.arr (parts n t).length 1 (fun i=>.str ((parts n t).getD i [])))]):=by
  have c2:=parts_ok (n : Nat) t
  have cc:=count_ok (t.length : Nat) ⟨by omega,by omega⟩
  have hl:=parts_len n t
  have hg:=fun k (hk : k < cnt t.length)=>parts_get (n:=n) (t:=t) hk
  have hlt:=fun k (hk : k < cnt t.length)=>cntN_lt (n:=t.length) (k:=k) (by rw [← cnt_nat ht];exact hk)
  have hcl:=cnt_le t.length
  generalize parts n t = L at *
  refine Ok.of_vcM tt_ok Tryz.func36 rfl rfl (by show 2 ≤ _;decide) 0 (hlt_ok (by rfl)) fun c0=>?_
  refine VCX.seqV ?_
  repeat' (first | (refine SS_ ?_) | fail)
  refine VCX.seqV ?_
  repeat' (first | (refine SS_ ?_) | (refine Seq.lit (by rfl) (by rfl) LT2_ ?_) | (refine VC.litF (by rfl) LFA_ ?_) | fail)
  refine VCX.seqV ?_
  repeat' (first | (refine SS_ ?_) | fail)
  refine VCX.seq (by rfl) (VCX.seqV ?_)
  repeat' (first | (refine SS_ ?_) | (refine Seq.callo false [] [(1,0),(2,1)] (.fn (.func 89) .nul (.pair (.ptr 2 []) (.pair (.ptr 1 []) .nul))) ([(1,.int .i64 (n : Nat)),(2,.str t)]) 3 (c2) Tryz.func72 gK_ok subG.nil (by rfl) (by rfl) rfl rfl rfl rfl rfl (by rfl) rfl (by rfl) (by rfl) (by rfl) (by rfl) VW_ NI_ R_ (noFrL_ok NI_) BK_ ?_) | fail)
  refine VCX.block (by rfl) (VCX.range (by rfl) (by rfl) (by rfl) (by rfl) (by rfl) (by rfl) (by rfl) (by rfl) ?_)
  intro cx d b rec hrec
  repeat' (first | (refine SS_ ?_) | (refine Seq.callp false (cc) Tryz.func41 gK_ok subG.nil (by rfl) (by rfl) rfl rfl rfl rfl rfl (by rfl) rfl VW_ NI_ NI_ FR_ ?_) | fail)
  refine VC.conv (Sim.ghostO 0 1 (fun i=>.str (([] : List Bs).getD i [])) (by rfl) (by rfl)) ?_
  refine VC.loop (fun x : Nat=>⟨[(11,.int .i64 (x : Nat)),(10,.int .i64 (cnt t.length : Nat)),(2,.ptr 1 []),(1,.ptr 2 []),(0,.val (.func (.yield b) #[] #[]))],[(4,.ob b (.loop { rec with state:=.ready,pending:=none })),(3,.ob d (.deferred (some []))),(1,.int .i64 (n : Nat)),(2,.str t),(0,.sl 5 [] 1 0 (L.take x).length),(5,.arr (L.take x).length 1 (fun i=>.str ((L.take x).getD i [])))],gK,6⟩) (fun x=>x ≤ cnt t.length) (fun x=>cnt t.length - x) 0 (by omega) (by
    exact (Sim.less [] (by rfl) R_ R_)
    all_goals rfl) fun x hx=>?_
  by_cases hxm : x < cnt t.length
  · have hTl : (L.take x).length = x:=by rw [List.length_take];omega
    have hts : L.take (x + 1) = L.take x ++ [L.getD x []]:=take_snoc (by omega)
    have hgx:=hg x hxm
    have hkx:=hlt x hxm
    generalize hr : t.drop (48 * x) = r at *
    have hrl : r.length = t.length - 48 * x:=by rw [← hr,List.length_drop]
    rw [← s5_eq] at hgx
    generalize hT : L.take (x + 1) = T2 at *
    generalize L.take x = T at *
    have p1:=put_ok s0 0 4 n rfl (by decide) (by omega)
    have p2:=put_ok (s1 n) 4 2 x (s1_len n) (by decide) (by omega)
    have p3:=put_ok (s2 n x) 6 2 r.length (s2_len n x) (by decide) (by omega)
    change Ok _ _ _ _ _ (fun q h'=>q = .tup .nul∧h' = [(0,blkA (s1 n))]) at p1
    change Ok _ _ _ _ _ (fun q h'=>q = .tup .nul∧h' = [(0,blkA (s2 n x))]) at p2
    change Ok _ _ _ _ _ (fun q h'=>q = .tup .nul∧h' = [(0,blkA (s3 n x r))]) at p3
    have hsm:=sum_ok false ((s4 n x r).take 56) (by rw [List.length_take];omega)
    repeat' (first | (refine SS_ ?_) | (refine VC.litT (by rfl) LTR_ ?_) | fail)
    refine VC.conv (s':=⟨[(6,.str r),(5,.ptr 6 []),(4,.int .i64 (x : Nat)),(11,.int .i64 (x : Nat)),(10,.int .i64 (cnt t.length : Nat)),(2,.ptr 1 []),(1,.ptr 2 []),(0,.val (.func (.yield b) #[] #[]))],[(6,blkA s0),(4,.ob b (.loop { rec with state:=.ready,pending:=none })),(3,.ob d (.deferred (some []))),(1,.int .i64 (n : Nat)),(2,.str t),(0,.sl 5 [] 1 0 T.length),(5,.arr T.length 1 (fun i=>.str (T.getD i [])))],gK,7⟩) (by
      (refine Sim.less [] (by rfl) ?_ ?_ <;> (repeat' (first | (exact EnvLe.nil) | (exact HeapLe.nil) | (with_reducible apply EnvLe.cons) | (with_reducible apply HeapLe.cons) | ((with_reducible refine RelA.int ?_;first | (refine Keep.mk ?_;first | with_reducible rfl | omega | decide) | skip)) | (exact rfl) | (exact ⟨rfl,rfl⟩) | ((with_reducible refine RelA.arr ?_;intro i hi)) | ((refine RelA.arr ?_;intro i hi)) | fail)) <;> (try with_reducible refine Keep.mk ?_))
      · rw [List.take_of_length_le (Nat.le_refl _),show (48 * (x : Int)).toNat = 48 * x by omega,hr];exact rfl
      · rw [show s0.getD _ 0 = 0 from rep0 _ _];exact rfl) ?_
    repeat' (first | (refine SS_ ?_) | (refine VC.drawm (id:=5) [(0,0),(1,0)] [2] (by rfl) (by kernel_rfl) (by rfl) ?_) | (refine Seq.callo false [(0,6)] [(6,0)] (.tup .nul) ([(6,blkA (s1 n))]) 7 (p1) Tryz.func90 gK_ok subG.nil (by rfl) (by rfl) rfl rfl rfl rfl rfl (by rfl) rfl (by rfl) (by rfl) (by rfl) (by rfl) VW_ NI_ R_ (noFrL_ok NI_) BK_ ?_) | (refine Seq.callo false [(0,6)] [(6,0)] (.tup .nul) ([(6,blkA (s2 n x))]) 7 (p2) Tryz.func90 gK_ok subG.nil (by rfl) (by rfl) rfl rfl rfl rfl rfl (by rfl) rfl (by rfl) (by rfl) (by rfl) (by rfl) VW_ NI_ R_ (noFrL_ok NI_) BK_ ?_) | (refine Seq.callo false [(0,6)] [(6,0)] (.tup .nul) ([(6,blkA (s3 n x r))]) 7 (p3) Tryz.func90 gK_ok subG.nil (by rfl) (by rfl) rfl rfl rfl rfl rfl (by rfl) rfl (by rfl) (by rfl) (by rfl) (by rfl) VW_ NI_ R_ (noFrL_ok NI_) BK_ ?_) | (refine DD_ ?_) | fail)
    have e4 : s4 n x r = putAt (s3 n x r) 8 (r.take (r.length.min (Int.toNat 56 - Int.toNat 8))):=by
      unfold s4
      congr 1
      rw [show (r.length.min (Int.toNat 56 - Int.toNat 8)) = min r.length 48 from rfl,Nat.min_comm,← List.take_take,List.take_length]
    have l3:=s3_len n x r
    have l4:=s4_len n x r
    refine Seq.conv (s':=⟨[(31,.sl 6 [] 1 0 56),(6,.str r),(5,.ptr 6 []),(4,.int .i64 (x : Nat)),(11,.int .i64 (x : Nat)),(10,.int .i64 (cnt t.length : Nat)),(2,.ptr 1 []),(1,.ptr 2 []),(0,.val (.func (.yield b) #[] #[]))],[(6,blkA (s4 n x r)),(4,.ob b (.loop { rec with state:=.ready,pending:=none })),(3,.ob d (.deferred (some []))),(1,.int .i64 (n : Nat)),(2,.str t),(0,.sl 5 [] 1 0 T.length),(5,.arr T.length 1 (fun i=>.str (T.getD i [])))],gK,7⟩) (by
      rw [e4]
      (refine Sim.less [] (by rfl) ?_ ?_ <;> (repeat' (first | (exact EnvLe.nil) | (exact HeapLe.nil) | (with_reducible apply EnvLe.cons) | (with_reducible apply HeapLe.cons) | ((with_reducible refine RelA.int ?_;first | (refine Keep.mk ?_;first | with_reducible rfl | omega | decide) | skip)) | (exact rfl) | (exact ⟨rfl,rfl⟩) | ((with_reducible refine RelA.arr ?_;intro i hi)) | ((refine RelA.arr ?_;intro i hi)) | fail)) <;> (try with_reducible refine Keep.mk ?_))
      refine rel_cp (Nat.min_le_left _ _) ?_ (fun j=>rfl)
      rw [l3]
      have : r.length.min (Int.toNat 56 - Int.toNat 8) ≤ 48:=Nat.min_le_right _ _
      show 8 + _ ≤ 64
      omega) ?_
    repeat' (first | (refine VC.conv (x:=.region 11 _ _) (s':=⟨[(5,.ptr 6 []),(11,.int .i64 (x : Nat)),(10,.int .i64 (cnt t.length : Nat)),(2,.ptr 1 []),(1,.ptr 2 []),(0,.val (.func (.yield b) #[] #[]))],[(6,blkA (s5 n x r)),(4,.ob b (.loop { rec with state:=.ready,pending:=none })),(3,.ob d (.deferred (some []))),(1,.int .i64 (n : Nat)),(2,.str t),(0,.sl 5 [] 1 0 T.length),(5,.arr T.length 1 (fun i=>.str (T.getD i [])))],gK,8⟩) ?_ (VC.regionY 2 (by rfl) ?_)) | (first | with_reducible refine VC.seq ?_ | with_reducible refine VC.block ?_ | with_reducible refine VC.region ?_ | with_reducible refine VC.exit ?_ | with_reducible refine VC.ret ?_ | with_reducible refine VC.skip ?_ | with_reducible refine Seq.nil ?_ | with_reducible refine thenQ_n ?_ | with_reducible refine thenQ_r ?_ | with_reducible refine thenQ_e ?_ | with_reducible refine inQ_n ?_ | with_reducible refine inQ_r ?_ | with_reducible refine inQ_e ?_ | ((with_reducible refine inQ_o ?_ ?_);rfl) | (refine Seq.ev0 true tt_ok (by rfl) (by (first | exact trivial | exact u8_in _ rfl | exact u32_in _ rfl | ((with_reducible refine AllP.guard ?_);simp only [AllP,inI,fitV,maxK,inK,inbL,inb,List.append,List.cons_append,List.nil_append,true_and,and_true];first | done | omega))) rfl rfl rfl ?_) | (refine Seq.ev true tt_ok (by rfl) (by (first | exact trivial | exact u8_in _ rfl | exact u32_in _ rfl | ((with_reducible refine AllP.guard ?_);simp only [AllP,inI,fitV,maxK,inK,inbL,inb,List.append,List.cons_append,List.nil_append,true_and,and_true];first | done | omega))) rfl rfl rfl ?_) | (refine Seq.evn true tt_ok (by rfl) (by (first | exact trivial | exact u8_in _ rfl | exact u32_in _ rfl | ((with_reducible refine AllP.guard ?_);simp only [AllP,inI,fitV,maxK,inK,inbL,inb,List.append,List.cons_append,List.nil_append,true_and,and_true];first | done | omega))) rfl ?_) | (refine Seq.pass (by rfl) rfl ?_)) | (refine VC.drawm (id:=10) [(0,0),(1,0)] [2] (by rfl) (by kernel_rfl) (by rfl) ?_) | (refine Seq.callp true (hsm) Tryz.func74 gK_ok subG.refl (by rfl) (by rfl) rfl rfl rfl rfl rfl (by rfl) rfl (by exact View.pair (view_sub (s:=s4 n x r) (by rfl) ⟨rfl,rfl⟩ l4 (by decide) rfl) VW_) NI_ NI_ FR_ ?_) | (refine DD_ ?_) | fail)
    · (refine Sim.less [] (by rfl) ?_ ?_ <;> (repeat' (first | (exact EnvLe.nil) | (exact HeapLe.nil) | (with_reducible apply EnvLe.cons) | (with_reducible apply HeapLe.cons) | ((with_reducible refine RelA.int ?_;first | (refine Keep.mk ?_;first | with_reducible rfl | omega | decide) | skip)) | (exact rfl) | (exact ⟨rfl,rfl⟩) | ((with_reducible refine RelA.arr ?_;intro i hi)) | ((refine RelA.arr ?_;intro i hi)) | fail)) <;> (try with_reducible refine Keep.mk ?_))
      unfold s5 sum8
      refine rel_cp (x:=Sha.sum ((s4 n x r).take 56)) (b:=s4 n x r) (o:=56) (q:=8) (by rw [Sha.sum_length];decide) ?_ (fun j=>by first | exact rfl | (rw [Nat.zero_add]))
      rw [l4];decide
    refine YTo.round (id:=4) hrec (by rfl) (by rfl) (by rfl) (by rfl) (by rfl) (by rfl) (by rfl) (by rfl) fun cy hcy=>?_
    have l5 : (s5 n x r).length = 64:=by rw [s5_eq];exact sec_len _ _ _
    generalize s5 n x r = sx at *
    repeat' (first | (refine SS_ ?_) | fail)
    refine ⟨by rfl,?_⟩
    repeat' (first | (refine SS_ ?_) | (refine DSeq.str (sx) tt_ok (by rfl) (fastE (by rfl)) (fastH (by rfl)) (by rfl) (by rfl) (by rfl) (by rfl) (by rfl) (by (first | exact trivial | exact u8_in _ rfl | exact u32_in _ rfl | ((with_reducible refine AllP.guard ?_);simp only [AllP,inI,fitV,maxK,inK,inbL,inb,List.append,List.cons_append,List.nil_append,true_and,and_true];first | done | omega))) (by rfl) (.inl rfl) (by rfl) (by rfl) (l5) (fun i hi=>by first | exact rfl | (simp only [Nat.zero_add];done) | fail) ?_) | (refine VC.drawm (id:=8) [(0,0),(1,0),(2,2),(3,6)] [4,5] (by rfl) (by kernel_rfl) (by rfl) ?_) | (refine DD_ ?_) | fail)
    refine ⟨none,by rfl,by rfl,?_⟩
    repeat' (first | (refine SS_ ?_) | (refine VC.litF (by rfl) LFA_ ?_) | fail)
    refine ⟨x + 1,by omega,by omega,?_⟩
    rw [hT,hts]
    show ∀ a_1 w,_→Sim _ ⟨[(11,.int .i64 ((x + 1 : Nat) : Int)),(10,.int .i64 (cnt t.length : Nat)),(2,.ptr 1 []),(1,.ptr 2 []),(0,.val (.func (.yield b) #[] #[]))],[(4,.ob b (.loop { rec with state:=.ready,pending:=none })),(3,.ob d (.deferred (some []))),(1,.int .i64 (n : Nat)),(2,.str t),(0,.sl 5 [] 1 0 (T ++ [L.getD x []]).length),(5,.arr (T ++ [L.getD x []]).length 1 (fun i=>.str ((T ++ [L.getD x []]).getD i [])))],gK,6⟩ a_1 w
    rw [List.length_append,List.length_singleton,hgx]
    (refine Sim.less [(5,10)] (by rfl) ?_ ?_ <;> (repeat' (first | (exact EnvLe.nil) | (exact HeapLe.nil) | (with_reducible apply EnvLe.cons) | (with_reducible apply HeapLe.cons) | ((with_reducible refine RelA.int ?_;first | (refine Keep.mk ?_;first | with_reducible rfl | omega | decide) | skip)) | (exact rfl) | (exact ⟨rfl,rfl⟩) | ((refine RelA.arr ?_;intro i hi)) | fail)) <;> (try with_reducible refine Keep.mk ?_))
    exact rel_snocG (G:=AV.str) (fun e=>NI_) hi
  · obtain rfl : x = cnt t.length:=by omega
    rw [← hl,List.take_length]
    repeat' (first | (refine SS_ ?_) | (refine VC.litF (by rfl) LFA_ ?_) | fail)
    refine ⟨.inr rfl,none,.ready,.normal,(fun h=>by cases h),rfl,by rfl,fun cf=>?_⟩
    refine ⟨by rfl,?_⟩
    refine VCX.of_vc ?_
    repeat' (first | (refine SS_ ?_) | fail)
    refine retM_one 3 d (by rfl) (by rfl) rfl ?_
    (refine retC_mk ([(4,.sl 5 [] 1 0 L.length),(5,.int .i64 0)]) ([(5,.arr L.length 1 (fun i=>.str (L.getD i [])))]) 6 (Sim.less [] (by rfl) R_ R_) (retQ_ok (by rfl) ([(5,.arr L.length 1 (fun i=>.str (L.getD i [])))]) (fun i av h=>h) ⟨?_,?_⟩)) <;> rfl
end Go.Proofs.YtmbldnahcmkpgaaGreatDoor
