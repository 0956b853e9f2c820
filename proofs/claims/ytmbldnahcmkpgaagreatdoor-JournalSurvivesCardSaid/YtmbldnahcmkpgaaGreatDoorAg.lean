/- Journals: the reference's Checked, Pack, Unpack, Text. -/
import Derived.Test.YtmbldnahcmkpgaaGreatDoorAf
import Derived.Test.YtmbldnahcmkpgaaGreatDoorIh
set_option linter.unusedSimpArgs false
set_option linter.unusedVariables false
namespace Go.Jn
open Go.Dk (Bs)
theorem sum8_get {b : Bs} {i : Nat} (h : i < 8) : (sum8 b).getD i 0 = (Sha.sum b).getD i 0:=by
  unfold sum8
  rw [List.getD_eq_getElem?_getD,List.getElem?_take_of_lt h,← List.getD_eq_getElem?_getD]
def stepText (size : Int) (fill : UInt8) : Bs:=(List.range (min (max size 0) 8100).toNat).map fun k=>fill + UInt8.ofNat k
theorem stepText_len (size : Int) (fill : UInt8) : (stepText size fill).length = (min (max size 0) 8100).toNat:=by unfold stepText;simp
theorem stepText_le (size : Int) (fill : UInt8) : (stepText size fill).length ≤ 8100:=by rw [stepText_len];omega
theorem stepText_get {size : Int} {fill : UInt8} {k : Nat} (h : k < (stepText size fill).length) : (stepText size fill).getD k 0 = fill + UInt8.ofNat k:=by
  rw [stepText_len] at h
  unfold stepText
  rw [List.getD_eq_getElem?_getD,List.getElem?_map,List.getElem?_range h];rfl
end Go.Jn
namespace Go.Proofs.YtmbldnahcmkpgaaGreatDoor
open Go.V Go.RowKit Go.L Go.Lx Go.Jn Go.Dk
set_option maxRecDepth 10000
set_option maxHeartbeats 4000000
theorem rchecked_ok (b : Bs) (hb : b.length ≤ 1000) : Ok Tryz.prog 79 gR [] (.pair (bytesA false b) .nul) (fun r h'=>r = .str (chkd b)∧h' = []):=by
  have c1:=refSum_ok b (by omega)
  have hl:=Sha.sum_length b
  have h8:=sum8_len b
  have hg:=fun i h=>sum8_get (b:=b) (i:=i) h
  unfold chkd
  generalize sum8 b = s8 at *
  generalize Sha.sum b = s at *
  refine Ok.of_vcC tt_ok Tryz.func79 rfl rfl (by show 1 ≤ _;decide) 0 (hlt_ok (by rfl)) fun c0=>?_
  repeat' (first | (refine SS_ ?_) | (refine VC.drawm (id:=2) [(0,0),(1,1),(2,0),(3,4),(4,15)] [5] (by rfl) (by kernel_rfl) (by rfl) ?_) | (refine Seq.callp false (c1) Tryz.func95 gR_ok subG.refl (by rfl) (by rfl) rfl rfl rfl rfl rfl (by rfl) rfl VW_ NI_ NI_ FR_ ?_) | (refine DSeq.str (b) tt_ok (by rfl) (fastE (by rfl)) (fastH (by rfl)) (by rfl) (by rfl) (by rfl) (by rfl) (by rfl) (by (first | exact trivial | exact u8_in _ rfl | exact u32_in _ rfl | ((with_reducible refine AllP.guard ?_);simp only [AllP,inI,fitV,maxK,inK,inbL,inb,List.append,List.cons_append,List.nil_append,true_and,and_true];first | done | omega))) (by rfl) (.inl rfl) (by rfl) (by rfl) (rfl) (fun i hi=>by first | exact rfl | (simp only [Nat.zero_add];done) | fail) ?_) | (refine DSeq.str (s8) tt_ok (by rfl) (fastE (by rfl)) (fastH (by rfl)) (by rfl) (by rfl) (by rfl) (by rfl) (by rfl) (by (first | exact trivial | exact u8_in _ rfl | exact u32_in _ rfl | ((with_reducible refine AllP.guard ?_);simp only [AllP,inI,fitV,maxK,inK,inbL,inb,List.append,List.cons_append,List.nil_append,true_and,and_true];first | done | omega))) (by rfl) (.inl rfl) (by rfl) (by rfl) (h8) (fun i hi=>by show AV.int .u8 ((s.getD (0 + i) 0).toNat : Nat) = _;rw [Nat.zero_add,hg i hi]) ?_) | (refine DSeq.cat (by rfl) (fastE (by rfl)) (fastH (by rfl)) (by rfl) (by rfl) (by rfl) (by omega) (by rfl) ?_ ) | (refine DD_ ?_) | fail)
  (refine retC_mk ([(2,.str (b ++ s8))]) ([]) 2 (Sim.less [] (by rfl) R_ R_) (retQ_ok (by rfl) ([]) (fun i av h=>h) ⟨?_,?_⟩)) <;> rfl
theorem pay_get {r : Bs} {i : Nat} (h : i < 48) : (pay r).getD i 0 = if i < r.length then r.getD i 0 else 0:=by
  unfold pay
  by_cases hi : i < r.length
  · rw [if_pos hi,List.getD_eq_getElem?_getD,List.getElem?_append_left (by rw [List.length_take];omega),List.getElem?_take_of_lt h,← List.getD_eq_getElem?_getD]
  · rw [if_neg hi]
    exact pay_zero (by omega)
theorem rpack_no (n : Int) (hn : I64 n) (t : Bs) (ht : t.length ≤ 9223372036854775807) (h : packE n t ≠ 0) : Ok Tryz.prog 63 gR [] (.pair (.int .i64 n) (.pair (.str t) .nul)) (fun r h'=>r = .tup (.pair (.val (.slice none 0 0)) (.pair (.int .i64 (packE n t)) .nul))∧h' = []):=by
  obtain ⟨n1,n2⟩:=hn
  unfold packE at *
  by_cases hc : n < 1 ∨ 4096 < n
  · rw [if_pos hc]
    refine Ok.of_vcC tt_ok Tryz.func63 rfl rfl (by show 2 ≤ _;decide) 0 (hlt_ok (by rfl)) fun c0=>?_
    repeat' (first | (refine SS_ ?_) | (refine VC.litT (by rfl) LTR_ ?_) | (refine Seq.litC (by rfl) (by rfl) (fun hb=>?_) (fun hb=>?_) <;> (fail_if_success (with_reducible have:=litT_ hb)) <;> (fail_if_success (with_reducible have:=litF_ hb)) <;> (try simp only [HB_] at hb) <;> (try (exfalso;first | omega | (cases hb;done)))) | fail)
    all_goals ((refine retC_mk ([(4,.val (.slice none 0 0)),(5,.int .i64 1)]) ([]) 0 (Sim.less [] (by rfl) R_ R_) (retQ_ok (by rfl) ([]) (fun i av h=>h) ⟨?_,?_⟩)) <;> rfl)
  · rw [if_neg hc] at h ⊢
    have ht : 8000 < t.length:=by
      by_cases hx : 8000 < t.length
      · exact hx
      · rw [if_neg hx] at h;exact absurd rfl h
    rw [if_pos ht]
    refine Ok.of_vcC tt_ok Tryz.func63 rfl rfl (by show 2 ≤ _;decide) 0 (hlt_ok (by rfl)) fun c0=>?_
    repeat' (first | (refine SS_ ?_) | (refine Seq.lit (by rfl) (by rfl) LT2_ ?_) | (refine VC.litT (by rfl) LTR_ ?_) | (refine VC.litF (by rfl) LFA_ ?_) | fail)
    all_goals ((refine retC_mk ([(4,.val (.slice none 0 0)),(5,.int .i64 4)]) ([]) 0 (Sim.less [] (by rfl) R_ R_) (retQ_ok (by rfl) ([]) (fun i av h=>h) ⟨?_,?_⟩)) <;> rfl)
theorem rel_joinL {A : Nat→Prop} {σ : Nat→Nat} {a b : Bs} {m : Nat} {F K : Nat→AV} (hm : a.length = m) (hF : ∀ i,i < m→RelA A σ (.int .u8 ((a.getD i 0).toNat : Nat)) (F i)) (hK : ∀ i,RelA A σ (.int .u8 ((b.getD i 0).toNat : Nat)) (K i)) {i : Nat} : RelA A σ (.int .u8 (((a ++ b).getD i 0).toNat : Nat)) (joinF m F K i):=by
  subst hm
  rcases Nat.lt_or_ge i a.length with h | h
  · rw [joinF_lt h,app_lt h];exact hF i h
  · rw [joinF_ge h,List.getD_eq_getElem?_getD,List.getElem?_append_right h,← List.getD_eq_getElem?_getD];exact hK _
theorem rpack_own (n : Nat) (t : Bs) (h0 : 1 ≤ n) (h1 : n ≤ 4096) (ht : t.length ≤ 8000) : Ok Tryz.prog 63 gR [] (.pair (.int .i64 (n : Nat)) (.pair (.str t) .nul)) (fun r h'=>r = .tup (.pair (.sl 0 [] 1 0 (parts n t).length) (.pair (.int .i64 0) .nul))∧h' = [(0,.arr (parts n t).length 1 (fun i=>.str ((parts n t).getD i [])))]):=by
  have cc:=rcount_ok (t.length : Nat) ⟨by omega,by omega⟩
  have hl:=parts_len n t
  have hg:=fun k (hk : k < cnt t.length)=>parts_get (n:=n) (t:=t) hk
  have hlt:=fun k (hk : k < cnt t.length)=>cntN_lt (n:=t.length) (k:=k) (by rw [← cnt_nat ht];exact hk)
  have hcl:=cnt_le t.length
  generalize parts n t = L at *
  refine Ok.of_vcC tt_ok Tryz.func63 rfl rfl (by show 2 ≤ _;decide) 0 (hlt_ok (by rfl)) fun c0=>?_
  repeat' (first | (refine SS_ ?_) | (refine Seq.lit (by rfl) (by rfl) LT2_ ?_) | (refine VC.litF (by rfl) LFA_ ?_) | fail)
  refine VC.conv (Sim.ghost 6 1 (fun _=>.nul) (by rfl) (.inl rfl)) ?_
  refine VC.loop (fun x : Nat=>⟨[(7,.int .i64 (x : Nat)),(6,.sl 0 [] 1 0 (L.take x).length),(0,.int .i64 (n : Nat)),(1,.str t)],[(0,.arr (L.take x).length 1 (fun i=>.str ((L.take x).getD i [])))],gR,1⟩) (fun x=>x ≤ cnt t.length) (fun x=>cnt t.length - x) 0 (by omega) (by
    (refine Sim.less [] (by rfl) ?_ ?_ <;> (repeat' (first | (exact EnvLe.nil) | (exact HeapLe.nil) | (with_reducible apply EnvLe.cons) | (with_reducible apply HeapLe.cons) | ((with_reducible refine RelA.int ?_;first | (refine Keep.mk ?_;first | with_reducible rfl | omega | decide) | skip)) | (exact rfl) | (exact ⟨rfl,rfl⟩) | ((refine RelA.arr ?_;intro i hi)) | fail)) <;> (try with_reducible refine Keep.mk ?_))
    all_goals (exact absurd (by assumption) (Nat.not_lt_zero _))) fun x hx=>?_
  by_cases hxm : x < cnt t.length
  · have hTl : (L.take x).length = x:=by rw [List.length_take];omega
    have hts : L.take (x + 1) = L.take x ++ [L.getD x []]:=take_snoc (by omega)
    have hgx:=hg x hxm
    have hkx:=hlt x hxm
    generalize hr : t.drop (48 * x) = r at *
    have hrl : r.length = t.length - 48 * x:=by rw [← hr,List.length_drop]
    generalize hT : L.take (x + 1) = T2 at *
    generalize L.take x = T at *
    have q1:=rsmall_ok n 4 (by omega) (by decide)
    have q2:=rsmall_ok x 2 (by omega) (by decide)
    have q3:=rsmall_ok r.length 2 (by omega) (by decide)
    repeat' (first | (refine VC.conv (x:=.region 10 _ _) (s':=⟨[(8,.str r),(7,.int .i64 (x : Nat)),(6,.sl 0 [] 1 0 T.length),(0,.int .i64 (n : Nat)),(1,.str t)],[(0,.arr T.length 1 (fun i=>.str (T.getD i [])))],gR,1⟩) ?_ (VC.region ?_)) | (first | with_reducible refine VC.seq ?_ | with_reducible refine VC.block ?_ | with_reducible refine VC.region ?_ | with_reducible refine VC.exit ?_ | with_reducible refine VC.ret ?_ | with_reducible refine VC.skip ?_ | with_reducible refine Seq.nil ?_ | with_reducible refine thenQ_n ?_ | with_reducible refine thenQ_r ?_ | with_reducible refine thenQ_e ?_ | with_reducible refine inQ_n ?_ | with_reducible refine inQ_r ?_ | with_reducible refine inQ_e ?_ | ((with_reducible refine inQ_o ?_ ?_);rfl) | (refine Seq.ev0 true tt_ok (by rfl) (by (first | exact trivial | exact u8_in _ rfl | exact u32_in _ rfl | ((with_reducible refine AllP.guard ?_);simp only [AllP,inI,fitV,maxK,inK,inbL,inb,List.append,List.cons_append,List.nil_append,true_and,and_true];first | done | omega))) rfl rfl rfl ?_) | (refine Seq.ev true tt_ok (by rfl) (by (first | exact trivial | exact u8_in _ rfl | exact u32_in _ rfl | ((with_reducible refine AllP.guard ?_);simp only [AllP,inI,fitV,maxK,inK,inbL,inb,List.append,List.cons_append,List.nil_append,true_and,and_true];first | done | omega))) rfl rfl rfl ?_) | (refine Seq.evn true tt_ok (by rfl) (by (first | exact trivial | exact u8_in _ rfl | exact u32_in _ rfl | ((with_reducible refine AllP.guard ?_);simp only [AllP,inI,fitV,maxK,inK,inbL,inb,List.append,List.cons_append,List.nil_append,true_and,and_true];first | done | omega))) rfl ?_) | (refine Seq.pass (by rfl) rfl ?_)) | (refine Seq.callp false (cc) Tryz.func55 gR_ok subG.nil (by rfl) (by rfl) rfl rfl rfl rfl rfl (by rfl) rfl VW_ NI_ NI_ FR_ ?_) | (refine Seq.callo false [] [(1,0)] (.sl 1 [] 1 0 4) ([(1,.arr 4 1 (fun i=>.int .u8 (((small n 4).getD i 0).toNat : Nat)))]) 2 (q1) Tryz.func83 gR_ok subG.nil (by rfl) (by rfl) rfl rfl rfl rfl rfl (by rfl) rfl (by rfl) (by rfl) (by rfl) (by rfl) VW_ NI_ R_ (noFrL_ok NI_) BK_ ?_) | (refine Seq.callo false [] [(2,0)] (.sl 2 [] 1 0 2) ([(2,.arr 2 1 (fun i=>.int .u8 (((small x 2).getD i 0).toNat : Nat)))]) 3 (q2) Tryz.func83 gR_ok subG.nil (by rfl) (by rfl) rfl rfl rfl rfl rfl (by rfl) rfl (by rfl) (by rfl) (by rfl) (by rfl) VW_ NI_ R_ (noFrL_ok NI_) BK_ ?_) | (refine Seq.callo false [] [(4,0)] (.sl 4 [] 1 0 2) ([(4,.arr 2 1 (fun i=>.int .u8 (((small r.length 2).getD i 0).toNat : Nat)))]) 5 (q3) Tryz.func83 gR_ok subG.nil (by rfl) (by rfl) rfl rfl rfl rfl rfl (by rfl) rfl (by rfl) (by rfl) (by rfl) (by rfl) VW_ NI_ R_ (noFrL_ok NI_) BK_ ?_) | (refine VC.litT (by rfl) LTR_ ?_) | fail)
    · (refine Sim.less [] (by rfl) ?_ ?_ <;> (repeat' (first | (exact EnvLe.nil) | (exact HeapLe.nil) | (with_reducible apply EnvLe.cons) | (with_reducible apply HeapLe.cons) | ((with_reducible refine RelA.int ?_;first | (refine Keep.mk ?_;first | with_reducible rfl | omega | decide) | skip)) | (exact rfl) | (exact ⟨rfl,rfl⟩) | ((with_reducible refine RelA.arr ?_;intro i hi)) | fail)) <;> (try with_reducible refine Keep.mk ?_))
      rw [List.take_of_length_le (Nat.le_refl _),show (48 * (x : Int)).toNat = 48 * x by omega,hr];exact rfl
    have hp:=pay_len r
    have hpg:=fun i (hi : i < 48)=>pay_get (r:=r) hi
    have hsec : sec n x r = chkd ((small n 4 ++ small x 2 ++ small r.length 2) ++ pay r):=by unfold sec hd;simp only [List.append_assoc]
    have h8l : (small n 4 ++ small x 2 ++ small r.length 2).length = 8:=by simp only [List.length_append,small_len]
    refine VC.loop (fun i : Nat=>⟨[(10,.int .i64 (i : Nat)),(9,.sl 5 [] 1 0 (8 + i)),(8,.str r),(7,.int .i64 (x : Nat)),(6,.sl 0 [] 1 0 T.length),(0,.int .i64 (n : Nat)),(1,.str t)],[(5,.arr (8 + i) 1 (fun j=>.int .u8 (((small n 4 ++ small x 2 ++ small r.length 2 ++ (pay r).take i).getD j 0).toNat : Nat))),(0,.arr T.length 1 (fun i=>.str (T.getD i [])))],gR,6⟩) (fun i=>i ≤ 48) (fun i=>48 - i) 0 (by omega) (by
      rw [List.take_zero,List.append_nil]
      (refine Sim.less [] (by rfl) ?_ ?_ <;> (repeat' (first | (exact EnvLe.nil) | (exact HeapLe.nil) | (with_reducible apply EnvLe.cons) | (with_reducible apply HeapLe.cons) | ((with_reducible refine RelA.int ?_;first | (refine Keep.mk ?_;first | with_reducible rfl | omega | decide) | skip)) | (exact rfl) | (exact ⟨rfl,rfl⟩) | ((with_reducible refine RelA.arr ?_;intro i hi)) | ((refine RelA.arr ?_;intro i hi)) | fail)) <;> (try with_reducible refine Keep.mk ?_))
      refine rel_joinL (by simp only [List.length_append,small_len]) (fun i hi=>rel_joinL (small_len _ _) (fun i hi=>rfl) fun i=>?_) fun i=>?_
      · show RelA _ _ _ (AV.int .u8 (((small x 2).getD (0 + i) 0).toNat : Nat));rw [Nat.zero_add];exact rfl
      · show RelA _ _ _ (AV.int .u8 (((small r.length 2).getD (0 + i) 0).toNat : Nat));rw [Nat.zero_add];exact rfl) fun i hi=>?_
    generalize small n 4 ++ small x 2 ++ small r.length 2 = h8 at *
    generalize pay r = P at *
    by_cases hi48 : i < 48
    · have hps : h8 ++ P.take (i + 1) = (h8 ++ P.take i) ++ [P.getD i 0]:=by rw [take_snoc (d:=0) (by omega),List.append_assoc]
      have hql : (h8 ++ P.take i).length = 8 + i:=by rw [List.length_append,List.length_take];omega
      have hpi:=hpg i hi48
      generalize hq2 : h8 ++ P.take (i + 1) = Q2 at *
      generalize h8 ++ P.take i = Q at *
      by_cases hir : i < r.length
      · rw [if_pos hir] at hpi
        repeat' (first | (refine SS_ ?_) | (refine VC.litT (by rfl) LTR_ ?_) | fail)
        refine ⟨i + 1,by omega,by omega,?_⟩
        rw [hq2,hps,hpi]
        (refine Sim.less [(5,7)] (by rfl) ?_ ?_ <;> (repeat' (first | (exact EnvLe.nil) | (exact HeapLe.nil) | (with_reducible apply EnvLe.cons) | (with_reducible apply HeapLe.cons) | ((with_reducible refine RelA.int ?_;first | (refine Keep.mk ?_;first | with_reducible rfl | omega | decide) | skip)) | (exact rfl) | (exact ⟨rfl,rfl⟩) | ((with_reducible refine RelA.arr ?_;intro i hi)) | ((refine RelA.arr ?_;intro i hi)) | fail)) <;> (try with_reducible refine Keep.mk ?_))
        rw [← hql]
        exact rel_snocG (G:=fun c : UInt8=>AV.int .u8 (c.toNat : Nat)) (fun e=>NI_) (by omega) (by rfl)
      · rw [if_neg hir] at hpi
        repeat' (first | (refine SS_ ?_) | (refine VC.litT (by rfl) LTR_ ?_) | (refine VC.litF (by rfl) LFA_ ?_) | fail)
        refine ⟨i + 1,by omega,by omega,?_⟩
        rw [hq2,hps,hpi]
        (refine Sim.less [(5,7)] (by rfl) ?_ ?_ <;> (repeat' (first | (exact EnvLe.nil) | (exact HeapLe.nil) | (with_reducible apply EnvLe.cons) | (with_reducible apply HeapLe.cons) | ((with_reducible refine RelA.int ?_;first | (refine Keep.mk ?_;first | with_reducible rfl | omega | decide) | skip)) | (exact rfl) | (exact ⟨rfl,rfl⟩) | ((with_reducible refine RelA.arr ?_;intro i hi)) | ((refine RelA.arr ?_;intro i hi)) | fail)) <;> (try with_reducible refine Keep.mk ?_))
        rw [← hql]
        exact rel_snocG (G:=fun c : UInt8=>AV.int .u8 (c.toNat : Nat)) (fun e=>NI_) (by omega) (by rfl)
    · obtain rfl : i = 48:=by omega
      rw [show P.take 48 = P from List.take_of_length_le (by omega)]
      have kk:=rchecked_ok (h8 ++ P) (by rw [List.length_append];omega)
      have hQl : (h8 ++ P).length = 8 + 48:=by rw [List.length_append];omega
      rw [← hsec,← hgx] at kk
      generalize h8 ++ P = Q at *
      repeat' (first | (refine SS_ ?_) | (refine Seq.callp true (kk) Tryz.func79 gR_ok subG.refl (by rfl) (by rfl) rfl rfl rfl rfl rfl (by rfl) rfl (by exact View.pair (view_sub (s:=Q) (by rfl) ⟨rfl,rfl⟩ hQl (by decide) (by rw [List.drop_zero,List.take_of_length_le (by omega)])) VW_) NI_ NI_ FR_ ?_) | (refine VC.litF (by rfl) LFA_ ?_) | fail)
      refine ⟨x + 1,by omega,by omega,?_⟩
      rw [hT,hts,List.length_append,List.length_singleton]
      (refine Sim.less [(0,7)] (by rfl) ?_ ?_ <;> (repeat' (first | (exact EnvLe.nil) | (exact HeapLe.nil) | (with_reducible apply EnvLe.cons) | (with_reducible apply HeapLe.cons) | ((with_reducible refine RelA.int ?_;first | (refine Keep.mk ?_;first | with_reducible rfl | omega | decide) | skip)) | (exact rfl) | (exact ⟨rfl,rfl⟩) | ((refine RelA.arr ?_;intro i hi)) | fail)) <;> (try with_reducible refine Keep.mk ?_))
      exact rel_snocG (G:=AV.str) (fun e=>NI_) (by omega)
  · obtain rfl : x = cnt t.length:=by omega
    rw [← hl,List.take_length]
    repeat' (first | (refine SS_ ?_) | (refine Seq.callp false (cc) Tryz.func55 gR_ok subG.nil (by rfl) (by rfl) rfl rfl rfl rfl rfl (by rfl) rfl VW_ NI_ NI_ FR_ ?_) | (refine VC.litF (by rfl) LFA_ ?_) | fail)
    (refine retC_mk ([(4,.sl 0 [] 1 0 L.length),(5,.int .i64 0)]) ([(0,.arr L.length 1 (fun i=>.str (L.getD i [])))]) 1 (Sim.less [] (by rfl) R_ R_) (retQ_ok (by rfl) ([(0,.arr L.length 1 (fun i=>.str (L.getD i [])))]) (fun i av h=>h) ⟨?_,?_⟩)) <;> rfl
theorem u8_add (f : UInt8) (x : Nat) : IntKind.u8.wrap ((f.toNat : Nat) + IntKind.u8.wrap (x : Nat)) = ((f + UInt8.ofNat x).toNat : Nat):=by
  simp only [IntKind.wrap,IntKind.bits,IntKind.signed,UInt8.toNat_add,UInt8.toNat_ofNat']
  simp
theorem rtext_ok (k i b size : Int) (fill : UInt8) (pk : List Int) (hs : I64 size) : Ok Tryz.prog 20 [] [] (.pair (.pair (.int .i64 k) (.pair (.int .i64 i) (.pair (.int .i64 b) (.pair (.int .i64 size) (.pair (.int .u8 (fill.toNat : Nat)) (.pair (liV pk) .nul)))))) .nul) (fun r h'=>r = .str (stepText size fill)∧h' = []):=by
  obtain ⟨hs1,hs2⟩:=hs
  have hlen:=stepText_len size fill
  have hge:=fun k (h : k < (stepText size fill).length)=>stepText_get h
  have hmm : min (max size 0) 8100 = (((stepText size fill).length : Nat) : Int):=by rw [hlen];omega
  have hle:=stepText_le size fill
  generalize stepText size fill = S at *
  refine Ok.of_vcC tt_ok Tryz.func20 rfl rfl (by show 1 ≤ _;decide) 0 (hlt_ok (by rfl)) fun c0=>?_
  repeat' (first | (refine SS_ ?_) | (refine Seq.val (max_ok (by rfl) (by rfl)) (by rfl) (by rfl) ?_) | (refine Seq.val (v:=.int .i64 ((S.length : Nat) : Int)) (hmm ▸ min_ok (k:=.i64) (by rfl) (by rfl)) (by rfl) (by rfl) ?_) | fail)
  refine VC.conv (Sim.ghost 4 1 (fun _=>.nul) (by rfl) (.inl rfl)) ?_
  refine VC.loop (fun x : Nat=>⟨[(5,.int .i64 (x : Nat)),(4,.sl 1 [] 1 0 x),(3,.int .i64 (S.length : Nat)),(1,.ptr 0 [])],[(1,.arr x 1 (fun j=>.int .u8 ((S.getD j 0).toNat : Nat))),(0,.pair (.int .i64 k) (.pair (.int .i64 i) (.pair (.int .i64 b) (.pair (.int .i64 size) (.pair (.int .u8 (fill.toNat : Nat)) (.pair (liV pk) .nul))))))],[],2⟩) (fun x=>x ≤ S.length) (fun x=>S.length - x) 0 (by omega) (by
    (refine Sim.less [] (by rfl) ?_ ?_ <;> (repeat' (first | (exact EnvLe.nil) | (exact HeapLe.nil) | (with_reducible apply EnvLe.cons) | (with_reducible apply HeapLe.cons) | ((with_reducible refine RelA.int ?_;first | (refine Keep.mk ?_;first | with_reducible rfl | omega | decide) | skip)) | (exact rfl) | (exact ⟨rfl,rfl⟩) | ((with_reducible refine RelA.rsl ?_;intro i hi)) | ((with_reducible refine RelA.arr ?_;intro i hi)) | (with_reducible refine RelA.pair ?_ ?_) | fail)) <;> (try with_reducible refine Keep.mk ?_))
    all_goals (exact absurd (by assumption) (Nat.not_lt_zero _))) fun x hx=>?_
  by_cases hxs : x < S.length
  · have hgx:=hge x hxs
    repeat' (first | (refine SS_ ?_) | (refine VC.litT (by rfl) LTR_ ?_) | fail)
    refine ⟨x + 1,by omega,by omega,?_⟩
    (refine Sim.less [(1,3)] (by rfl) ?_ ?_ <;> (repeat' (first | (exact EnvLe.nil) | (exact HeapLe.nil) | (with_reducible apply EnvLe.cons) | (with_reducible apply HeapLe.cons) | ((with_reducible refine RelA.int ?_;first | (refine Keep.mk ?_;first | with_reducible rfl | omega | decide) | skip)) | (exact rfl) | (exact ⟨rfl,rfl⟩) | ((with_reducible refine RelA.rsl ?_;intro i hi)) | (with_reducible refine RelA.pair ?_ ?_) | ((refine RelA.arr ?_;intro i hi)) | fail)) <;> (try with_reducible refine Keep.mk ?_))
    by_cases h : i < x
    · rw [joinF_lt h];exact rfl
    · obtain rfl : i = x:=by omega
      rw [joinF_ge (Nat.le_refl _),Nat.sub_self,hgx,← u8_add];exact rfl
  · obtain rfl : x = S.length:=by omega
    repeat' (first | (refine SS_ ?_) | (refine Seq.str (S) tt_ok (by rfl) (by rfl) (by rfl) (by rfl) (by rfl) (by (first | exact trivial | exact u8_in _ rfl | exact u32_in _ rfl | ((with_reducible refine AllP.guard ?_);simp only [AllP,inI,fitV,maxK,inK,inbL,inb,List.append,List.cons_append,List.nil_append,true_and,and_true];first | done | omega))) (by rfl) (.inl rfl) (by rfl) rfl (rfl) (fun i hi=>by first | exact rfl | simp only [Nat.zero_add]) ?_) | (refine VC.litF (by rfl) LFA_ ?_) | fail)
    (refine retC_mk ([(2,.str S)]) ([]) 2 (Sim.less [] (by rfl) R_ R_) (retQ_ok (by rfl) ([]) (fun i av h=>h) ⟨?_,?_⟩)) <;> rfl
end Go.Proofs.YtmbldnahcmkpgaaGreatDoor
