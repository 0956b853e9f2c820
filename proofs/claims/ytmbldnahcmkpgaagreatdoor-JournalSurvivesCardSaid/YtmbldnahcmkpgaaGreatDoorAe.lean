/- Journals: numbers read from bytes (a range over slices.Backward; the reference's loop). Journals: what a sector says (unpack, Unpack). -/
import Derived.Test.YtmbldnahcmkpgaaGreatDoorAc
set_option linter.unusedSimpArgs false
set_option linter.unusedVariables false
namespace Go.Jn
open Go.Dk (Bs)
theorem val_drop {l : Bs} {i : Nat} (h : i < l.length) : val (l.drop i) = (l.getD i 0).toNat + 256 * val (l.drop (i + 1)):=by
  rw [List.drop_eq_getElem_cons h,val,List.getD_eq_getElem?_getD,List.getElem?_eq_getElem h];rfl
theorem val_le4 {l : Bs} (h : l.length ≤ 4) : val l ≤ 4294967295:=by
  have:=val_lt l
  have : 256 ^ l.length ≤ 256 ^ 4:=Nat.pow_le_pow_right (by decide) h
  omega
theorem val_drop_lt {l : Bs} (h : l.length ≤ 4) {i : Nat} (hi : 1 ≤ i) : val (l.drop i) ≤ 16777215:=by
  have:=val_lt (l.drop i)
  have : 256 ^ (l.drop i).length ≤ 256 ^ 3:=Nat.pow_le_pow_right (by decide) (by rw [List.length_drop];omega)
  omega
end Go.Jn
namespace Go.Proofs.YtmbldnahcmkpgaaGreatDoor
open Go.V Go.RowKit Go.L Go.Lx Go.Jn Go.Dk
set_option maxRecDepth 10000
set_option maxHeartbeats 4000000
theorem number_ok (l : Bs) (hl : l.length ≤ 4) : Ok Tryz.prog 78 [] [] (.pair (.str l) .nul) (fun r h'=>r = .int .i64 (val l : Nat)∧h' = []):=by
  refine Ok.of_vcC tt_ok Tryz.func78 rfl rfl (by show 1 ≤ _;decide) 0 (hlt_ok (by rfl)) fun c0=>?_
  repeat' (first | (refine SS_ ?_) | fail)
  refine VC.loop (fun k : Nat=>⟨[(4,.int .i64 ((k : Nat) - 1 : Int)),(3,.int .i64 (val (l.drop k) : Nat)),(0,.str l)],[],[],0⟩) (fun k=>k ≤ l.length) (fun k=>k) l.length (Nat.le_refl _) (by
    rw [List.drop_length]
    exact (Sim.less [] (by rfl) R_ R_)
    all_goals rfl) fun k hk=>?_
  cases k with
  | succ k =>
    have hv:=val_drop (l:=l) (i:=k) (by omega)
    have hb:=val_drop_lt hl (i:=k + 1) (by omega)
    have hx : (l.getD ((k : Int)).toNat 0).toNat < 256:=UInt8.toNat_lt _
    generalize hq : val (l.drop (k + 1)) = q at *
    generalize hv2 : val (l.drop k) = v at *
    rw [show (((k + 1 : Nat) : Int) - 1) = (k : Int) by omega]
    repeat' (first | (refine SS_ ?_) | (refine VC.litT (by rfl) LTR_ ?_) | fail)
    refine ⟨k,by omega,by omega,?_⟩
    rw [hv2]
    (refine Sim.less [] (by rfl) ?_ ?_ <;> (repeat' (first | (exact EnvLe.nil) | (exact HeapLe.nil) | (with_reducible apply EnvLe.cons) | ((with_reducible refine RelA.int ?_;first | (refine Keep.mk ?_;first | with_reducible rfl | omega | decide) | skip)) | (exact rfl) | fail)) <;> (try with_reducible refine Keep.mk ?_))
    rw [Int.toNat_natCast];omega
  | zero =>
    rw [List.drop_zero]
    repeat' (first | (refine SS_ ?_) | (refine VC.litF (by rfl) LFA_ ?_) | fail)
    (refine retC_mk ([(2,.int .i64 (val l : Nat))]) ([]) 0 (Sim.less [] (by rfl) R_ R_) (retQ_ok (by rfl) ([]) (fun i av h=>h) ⟨?_,?_⟩)) <;> rfl
theorem back_ok (l : Bs) : Ok Tryz.prog 94 [] [] (.pair (bytesA false l) .nul) (fun r h'=>r = .fn (.func 102) .nul (.pair (.ptr 0 []) .nul)∧h' = [(0,bytesA false l)]):=by
  refine Ok.of_vcC tt_ok Tryz.func94 rfl rfl (by show 1 ≤ _;decide) 0 (hlt_ok (by rfl)) fun c0=>?_
  repeat' (first | (refine SS_ ?_) | fail)
  (refine retC_mk ([(2,.fn (.func 102) .nul (.pair (.ptr 0 []) .nul))]) ([(0,bytesA false l)]) 1 (Sim.less [] (by rfl) R_ R_) (retQ_ok (by rfl) ([(0,bytesA false l)]) (fun i av h=>h) ⟨?_,?_⟩)) <;> rfl
theorem or_add (q x : Nat) (hq : q ≤ 16777215) (hx : x < 256) : bits .or .i64 (IntKind.i64.wrap ((q : Int) * 2 ^ min (Int.toNat 8) IntKind.i64.bits)) (x : Nat) = ((x + 256 * q : Nat) : Int):=by
  have hw : ∀ n : Nat,n ≤ 9223372036854775807→IntKind.i64.wrap (n : Int) = n:=fun n h=>by
    simp [IntKind.wrap,IntKind.bits,IntKind.signed];omega
  have e : (q : Int) * (2 : Int) ^ min (Int.toNat 8) IntKind.i64.bits = ((q <<< 8 : Nat) : Int):=by
    rw [Nat.shiftLeft_eq];exact rfl
  have h8 : q <<< 8 = q * 256:=Nat.shiftLeft_eq _ _
  rw [e,hw _ (by omega)]
  show IntKind.i64.wrap (((BitVec.ofInt 64 ((q <<< 8 : Nat) : Int)) ||| (BitVec.ofInt 64 (x : Int))).toNat : Int) = _
  rw [show BitVec.ofInt 64 ((q <<< 8 : Nat) : Int) = BitVec.ofNat 64 (q <<< 8) from BitVec.ofInt_natCast ..,show BitVec.ofInt 64 (x : Int) = BitVec.ofNat 64 x from BitVec.ofInt_natCast ..,BitVec.toNat_or,BitVec.toNat_ofNat,BitVec.toNat_ofNat,Nat.mod_eq_of_lt (by omega),Nat.mod_eq_of_lt (by omega),← Nat.shiftLeft_add_eq_or_of_lt (by omega),hw _ (by omega),h8]
  congr 1;omega
theorem get_ok (l : Bs) (hl : l.length ≤ 4) : Ok Tryz.prog 75 [] [] (.pair (bytesA false l) .nul) (fun r h'=>r = .int .i64 (val l : Nat)∧h' = []):=by
  have c2:=back_ok l
  refine Ok.of_vcM tt_ok Tryz.func75 rfl rfl (by show 1 ≤ _;decide) 0 (hlt_ok (by rfl)) fun c0=>?_
  refine VCX.seqV ?_
  repeat' (first | (refine SS_ ?_) | fail)
  refine VCX.seqV ?_
  repeat' (first | (refine SS_ ?_) | fail)
  refine VCX.seq (by rfl) (VCX.seqV ?_)
  repeat' (first | (refine SS_ ?_) | (refine Seq.callo false [] [(1,0)] (.fn (.func 102) .nul (.pair (.ptr 1 []) .nul)) ([(1,bytesA false l)]) 2 (c2) Tryz.func94 GOk.nil subG.nil (by rfl) (by rfl) rfl rfl rfl rfl rfl (by rfl) rfl (by rfl) (by rfl) (by rfl) (by rfl) VW_ NI_ R_ (noFrL_ok NI_) BK_ ?_) | fail)
  refine VCX.block (by rfl) (VCX.range (by rfl) (by rfl) (by rfl) (by rfl) (by rfl) (by rfl) (by rfl) (by rfl) ?_)
  intro cc d b rec hrec
  repeat' (first | (refine SS_ ?_) | fail)
  refine VC.loop (fun k : Nat=>⟨[(3,.int .i64 ((k : Nat) - 1 : Int)),(1,.ptr 1 []),(0,.val (.func (.yield b) #[] #[]))],[(3,.ob b (.loop { rec with state:=.ready,pending:=none })),(2,.ob d (.deferred (some []))),(1,bytesA false l),(0,.int .i64 (val (l.drop k) : Nat))],[],4⟩) (fun k=>k ≤ l.length) (fun k=>k) l.length (Nat.le_refl _) (by
    rw [List.drop_length]
    exact (Sim.less [] (by rfl) R_ R_)
    all_goals rfl) fun k hk=>?_
  cases k with
  | succ k =>
    have hv:=val_drop (l:=l) (i:=k) (by omega)
    have hb:=val_drop_lt hl (i:=k + 1) (by omega)
    have hx : (l.getD ((k : Int)).toNat 0).toNat < 256:=UInt8.toNat_lt _
    generalize hq : val (l.drop (k + 1)) = q at *
    generalize hv2 : val (l.drop k) = v at *
    rw [show (((k + 1 : Nat) : Int) - 1) = (k : Int) by omega]
    repeat' (first | (refine VC.regionY 6 (by rfl) ?_) | (first | with_reducible refine VC.seq ?_ | with_reducible refine VC.block ?_ | with_reducible refine VC.region ?_ | with_reducible refine VC.exit ?_ | with_reducible refine VC.ret ?_ | with_reducible refine VC.skip ?_ | with_reducible refine Seq.nil ?_ | with_reducible refine thenQ_n ?_ | with_reducible refine thenQ_r ?_ | with_reducible refine thenQ_e ?_ | with_reducible refine inQ_n ?_ | with_reducible refine inQ_r ?_ | with_reducible refine inQ_e ?_ | ((with_reducible refine inQ_o ?_ ?_);rfl) | (refine Seq.ev0 true tt_ok (by rfl) (by (first | exact trivial | exact u8_in _ rfl | exact u32_in _ rfl | ((with_reducible refine AllP.guard ?_);simp only [AllP,inI,fitV,maxK,inK,inbL,inb,List.append,List.cons_append,List.nil_append,true_and,and_true];first | done | omega))) rfl rfl rfl ?_) | (refine Seq.ev true tt_ok (by rfl) (by (first | exact trivial | exact u8_in _ rfl | exact u32_in _ rfl | ((with_reducible refine AllP.guard ?_);simp only [AllP,inI,fitV,maxK,inK,inbL,inb,List.append,List.cons_append,List.nil_append,true_and,and_true];first | done | omega))) rfl rfl rfl ?_) | (refine Seq.evn true tt_ok (by rfl) (by (first | exact trivial | exact u8_in _ rfl | exact u32_in _ rfl | ((with_reducible refine AllP.guard ?_);simp only [AllP,inI,fitV,maxK,inK,inbL,inb,List.append,List.cons_append,List.nil_append,true_and,and_true];first | done | omega))) rfl ?_) | (refine Seq.pass (by rfl) rfl ?_)) | (refine VC.litT (by rfl) LTR_ ?_) | fail)
    refine YTo.round (id:=3) hrec (by rfl) (by rfl) (by rfl) (by rfl) (by rfl) (by rfl) (by rfl) (by rfl) fun cy hcy=>?_
    repeat' (first | (refine SS_ ?_) | fail)
    refine ⟨by rfl,?_⟩
    repeat' (first | (refine SS_ ?_) | fail)
    refine ⟨none,by rfl,by rfl,?_⟩
    repeat' (first | (refine SS_ ?_) | (refine VC.litF (by rfl) LFA_ ?_) | fail)
    refine ⟨k,by omega,by omega,?_⟩
    rw [hv2,or_add _ _ hb hx,show (l.getD ((k : Int)).toNat 0).toNat + 256 * q = v by rw [Int.toNat_natCast];omega]
    show ∀ a_1 w,_→Sim _ ⟨[(3,.int .i64 ((k : Nat) - 1 : Int)),(1,.ptr 1 []),(0,.val (.func (.yield b) #[] #[]))],[(3,.ob b (.loop { rec with state:=.ready,pending:=none })),(2,.ob d (.deferred (some []))),(1,bytesA false l),(0,.int .i64 (v : Nat))],[],4⟩ a_1 w
    exact (Sim.less [] (by rfl) R_ R_)
  | zero =>
    rw [List.drop_zero]
    repeat' (first | (refine SS_ ?_) | (refine VC.litF (by rfl) LFA_ ?_) | fail)
    refine ⟨.inr rfl,none,.ready,.normal,(fun h=>by cases h),rfl,by rfl,fun cf=>?_⟩
    refine ⟨by rfl,?_⟩
    refine VCX.seqV ?_
    repeat' (first | (refine SS_ ?_) | fail)
    refine VCX.of_vc ?_
    repeat' (first | (refine SS_ ?_) | fail)
    refine retM_one 2 d (by rfl) (by rfl) rfl ?_
    (refine retC_mk ([(2,.int .i64 (val l : Nat))]) ([]) 4 (Sim.less [] (by rfl) R_ R_) (retQ_ok (by rfl) ([]) (fun i av h=>h) ⟨?_,?_⟩)) <;> rfl
end Go.Proofs.YtmbldnahcmkpgaaGreatDoor

namespace Go.Jn
open Go.Dk (Bs)
theorem unp_no {s : Bs} (h : ¬ Fine s) : unp s = noPart:=if_neg h
theorem unp_yes {s : Bs} (h : Fine s) : unp s = ⟨secNum s,secPart s,secLeft s,(s.drop 8).take (min (secLeft s) 48),true⟩:=if_pos h
theorem num_le (s : Bs) : secNum s ≤ 4294967295:=val_le4 (by rw [List.length_take];omega)
theorem part_le (s : Bs) : secPart s ≤ 65535:=by
  have:=val_lt ((s.drop 4).take 2)
  have : 256 ^ ((s.drop 4).take 2).length ≤ 256 ^ 2:=Nat.pow_le_pow_right (by decide) (by rw [List.length_take];omega)
  unfold secPart;omega
theorem left_le (s : Bs) : secLeft s ≤ 65535:=by
  have:=val_lt ((s.drop 6).take 2)
  have : 256 ^ ((s.drop 6).take 2).length ≤ 256 ^ 2:=Nat.pow_le_pow_right (by decide) (by rw [List.length_take];omega)
  unfold secLeft;omega
def tailOf (s : Bs) : Bs:=(s.drop (8 + min (secLeft s) 48)).take (48 - min (secLeft s) 48)
theorem tail_zero {s : Bs} (hs : s.length = 64) : tailOf s = List.replicate (48 - min (secLeft s) 48) 0 ↔ ∀ i,i < 56→8 + min (secLeft s) 48 ≤ i→s.getD i 0 = 0:=by
  unfold tailOf
  constructor
  · intro h i hi hlo
    have h1:=congrArg (fun l : Bs=>l.getD (i - (8 + min (secLeft s) 48)) 0) h
    simp only [List.getD_eq_getElem?_getD] at h1 ⊢
    rw [List.getElem?_take_of_lt (by omega),List.getElem?_drop,List.getElem?_replicate,if_pos (by omega)] at h1
    rw [show 8 + min (secLeft s) 48 + (i - (8 + min (secLeft s) 48)) = i by omega] at h1
    exact h1
  · intro h
    apply List.ext_getElem?
    intro j
    rw [List.getElem?_replicate]
    split
    · rw [List.getElem?_take_of_lt (by omega),List.getElem?_drop]
      have:=h (8 + min (secLeft s) 48 + j) (by omega) (by omega)
      rw [List.getD_eq_getElem?_getD,List.getElem?_eq_getElem (by omega)] at this
      rw [List.getElem?_eq_getElem (by omega)]
      exact congrArg some this
    · rw [List.getElem?_eq_none (by rw [List.length_take];omega)]
end Go.Jn
namespace Go.Proofs.YtmbldnahcmkpgaaGreatDoor
open Go.V Go.RowKit Go.L Go.Lx Go.Jn Go.Dk
set_option maxRecDepth 10000
set_option maxHeartbeats 4000000
theorem view_sub {H : Asc} {bor D : Nat→Prop} {σ : Nat→Nat} {id n o m : Nat} {s t : Bs} (h : get? H id = some (.arr n 1 (fun i=>.int .u8 ((s.getD i 0).toNat : Nat)))) (hb : bor id) (hn : s.length = n) (hl : o + m ≤ n) (ht : t = (s.drop o).take m) : View H bor D σ (bytesA false t) (.sl id [] 1 o m):=by
  have hm : t.length = m:=by rw [ht,List.length_take,List.length_drop];omega
  unfold bytesA
  rw [hm]
  refine View.sln h rfl trivial (by omega) hb rfl fun i hi=>?_
  have e : s.getD (o + i) 0 = t.getD i 0:=by
    rw [ht,List.getD_eq_getElem?_getD,List.getD_eq_getElem?_getD,List.getElem?_take_of_lt hi,List.getElem?_drop]
  rw [← e]
  exact rfl
theorem equal_ok (a b : Bs) : Ok Tryz.prog 76 [] [] (.pair (bytesA false a) (.pair (bytesA false b) .nul)) (fun r h'=>r = .bool (decide (a = b))∧h' = []):=by
  refine Ok.of_vcC tt_ok Tryz.func76 rfl rfl (by show 2 ≤ _;decide) 0 (hlt_ok (by rfl)) fun c0=>?_
  repeat' (first | (refine SS_ ?_) | (refine Seq.str (a) tt_ok (by rfl) (by rfl) (by rfl) (by rfl) (by rfl) (by (first | exact trivial | exact u8_in _ rfl | exact u32_in _ rfl | ((with_reducible refine AllP.guard ?_);simp only [AllP,inI,fitV,maxK,inK,inbL,inb,List.append,List.cons_append,List.nil_append,true_and,and_true];first | done | omega))) (by rfl) (.inl rfl) (by rfl) rfl (rfl) (fun i hi=>by first | exact rfl | simp only [Nat.zero_add]) ?_) | (refine Seq.str (b) tt_ok (by rfl) (by rfl) (by rfl) (by rfl) (by rfl) (by (first | exact trivial | exact u8_in _ rfl | exact u32_in _ rfl | ((with_reducible refine AllP.guard ?_);simp only [AllP,inI,fitV,maxK,inK,inbL,inb,List.append,List.cons_append,List.nil_append,true_and,and_true];first | done | omega))) (by rfl) (.inl rfl) (by rfl) rfl (rfl) (fun i hi=>by first | exact rfl | simp only [Nat.zero_add]) ?_) | fail)
  (refine retC_mk ([(4,.bool (decide (a = b)))]) ([]) 0 (Sim.less [] (by rfl) R_ R_) (retQ_ok (by rfl) ([]) (fun i av h=>h) ⟨?_,?_⟩)) <;> rfl
theorem rep0 (n i : Nat) : (List.replicate n (0 : UInt8)).getD i 0 = 0:=by
  rw [List.getD_eq_getElem?_getD,List.getElem?_replicate];split <;> rfl
abbrev partV (num part left : Nat) (text : Bs) (ok : Bool) : AV:=.pair (.int .i64 (num : Nat)) (.pair (.int .i64 (part : Nat)) (.pair (.int .i64 (left : Nat)) (.pair (.str text) (.pair (.bool ok) .nul))))
abbrev partA (p : Part) : AV:=partV p.num p.part p.left p.text p.ok
abbrev partZ : AV:=partV 0 0 0 [] false
theorem unpack_ok (s : Bs) (hs : s.length ≤ 9223372036854775807) : Ok Tryz.prog 48 gK [] (.pair (.str s) .nul) (fun r h'=>r = partA (unp s)∧h' = []):=by
  by_cases h64 : s.length = 64
  · have c1:=sum_ok false (s.take 56) (by rw [List.length_take];omega)
    have g1:=get_ok (s.take 4) (by rw [List.length_take];omega)
    have g2:=get_ok ((s.drop 4).take 2) (by rw [List.length_take];omega)
    have g3:=get_ok ((s.drop 6).take 2) (by rw [List.length_take];omega)
    have e1:=equal_ok (sum8 (s.take 56)) (s.drop 56)
    have e2:=equal_ok (tailOf s) (List.replicate (48 - min (secLeft s) 48) 0)
    have b1:=num_le s
    have b2:=part_le s
    have b3:=left_le s
    change Ok _ _ _ _ _ (fun r h'=>r = .int .i64 (secNum s : Nat)∧h' = []) at g1
    change Ok _ _ _ _ _ (fun r h'=>r = .int .i64 (secPart s : Nat)∧h' = []) at g2
    change Ok _ _ _ _ _ (fun r h'=>r = .int .i64 (secLeft s : Nat)∧h' = []) at g3
    have fs:=fun (h : Fine s)=>h.sum
    have fn : Fine s→1 ≤ secNum s∧secNum s ≤ 4096∧48 * secPart s + secLeft s ≤ 8000∧(1 ≤ secLeft s ∨ secPart s = 0):=fun h=>⟨h.n1,h.n2,h.small,h.left⟩
    have fz : Fine s→tailOf s = List.replicate (48 - min (secLeft s) 48) 0:=fun h=>(tail_zero h64).2 h.zero
    have ff : sum8 (s.take 56) = s.drop 56→1 ≤ secNum s∧secNum s ≤ 4096∧48 * secPart s + secLeft s ≤ 8000∧(1 ≤ secLeft s ∨ secPart s = 0)→tailOf s = List.replicate (48 - min (secLeft s) 48) 0→Fine s:=fun h1 h2 h3=>⟨h64,h1,h2.1,h2.2.1,h2.2.2.1,h2.2.2.2,(tail_zero h64).1 h3⟩
    have hT : ∀ o m,o = 8 + min (secLeft s) 48→m = 48 - min (secLeft s) 48→tailOf s = (s.drop o).take m:=fun o m h1 h2=>by subst h1 h2;rfl
    have hu:=fun h=>unp_yes (s:=s) h
    have hv:=fun h=>unp_no (s:=s) h
    have h8 : ∀ o m,o = 8→m = min (secLeft s) 48→(s.drop 8).take (min (secLeft s) 48) = (s.drop o).take m:=fun o m h1 h2=>by subst h1 h2;rfl
    generalize hsm : Sha.sum (s.take 56) = sm at *
    have h32 : sm.length = 32:=by rw [← hsm];rfl
    have e8 : sum8 (s.take 56) = sm.take 8:=by unfold sum8;rw [hsm]
    generalize sum8 (s.take 56) = s8 at *
    generalize tailOf s = tz at *
    generalize secNum s = num at *
    generalize secPart s = part at *
    generalize secLeft s = left at *
    generalize hnn : min left 48 = nn at *
    have hnn' : min (left : Int) 48 = nn:=by omega
    have hnl : nn ≤ 48:=by omega
    refine Ok.of_vcC tt_ok Tryz.func48 rfl rfl (by show 1 ≤ _;decide) 0 (hlt_ok (by rfl)) fun c0=>?_
    repeat' (first | (refine SS_ ?_) | (refine Seq.callp true (c1) Tryz.func74 gK_ok subG.refl (by rfl) (by rfl) rfl rfl rfl rfl rfl (by rfl) rfl (by exact View.pair (view_sub (s:=s) (by rfl) ⟨rfl,rfl⟩ h64 (by decide) rfl) VW_) NI_ NI_ FR_ ?_) | (refine DSeq.callp true (g1) Tryz.func75 gK_ok subG.nil (by rfl) (fastE (by rfl)) (fastH (by rfl)) (by rfl) (by rfl) rfl rfl rfl rfl rfl (by rfl) (by rfl) (by exact View.pair (view_sub (s:=s) (by rfl) ⟨rfl,rfl⟩ h64 (by decide) rfl) VW_) NI_ NI_ FR_ ?_) | (refine DSeq.callp true (g2) Tryz.func75 gK_ok subG.nil (by rfl) (fastE (by rfl)) (fastH (by rfl)) (by rfl) (by rfl) rfl rfl rfl rfl rfl (by rfl) (by rfl) (by exact View.pair (view_sub (s:=s) (by rfl) ⟨rfl,rfl⟩ h64 (by decide) rfl) VW_) NI_ NI_ FR_ ?_) | (refine DSeq.callp true (g3) Tryz.func75 gK_ok subG.nil (by rfl) (fastE (by rfl)) (fastH (by rfl)) (by rfl) (by rfl) rfl rfl rfl rfl rfl (by rfl) (by rfl) (by exact View.pair (view_sub (s:=s) (by rfl) ⟨rfl,rfl⟩ h64 (by decide) rfl) VW_) NI_ NI_ FR_ ?_) | (refine VC.drawm (id:=5) [(0,0),(1,1),(2,0),(3,7),(4,0),(5,31),(6,63),(7,0)] [8] (by rfl) (by kernel_rfl) (by rfl) ?_) | (refine Seq.val (min_ok (by rfl) (by rfl)) (by rfl) (by rfl) ?_) | (refine VC.litF (by rfl) LFA_ ?_) | (refine DD_ ?_) | fail)
    rw [hnn',show (48 - (nn : Int)).toNat = 48 - nn by omega]
    refine VC.conv (s':=⟨[(7,.sl 4 [] 1 0 (48 - nn)),(6,.int .i64 (nn : Nat)),(5,.ptr 3 []),(4,.ptr 2 []),(3,.ptr 1 []),(2,.ptr 0 []),(0,.str s)],[(4,.arr (48 - nn) 1 (fun i=>.int .u8 (((List.replicate (48 - nn) (0 : UInt8)).getD i 0).toNat : Nat))),(3,partV num part left [] true),(2,u8A 32 sm),(1,blkA s),(0,partZ)],gK,5⟩) (by
      (refine Sim.less [] (by rfl) ?_ ?_ <;> (repeat' (first | (exact EnvLe.nil) | (exact HeapLe.nil) | (with_reducible apply EnvLe.cons) | (with_reducible apply HeapLe.cons) | ((with_reducible refine RelA.int ?_;first | (refine Keep.mk ?_;first | with_reducible rfl | omega | decide) | skip)) | (exact rfl) | (exact ⟨rfl,rfl⟩) | (with_reducible refine RelA.pair ?_ ?_) | ((refine RelA.arr ?_;intro i hi)) | (refine RelA.pair ?_ ?_) | fail)) <;> (try with_reducible refine Keep.mk ?_))
      all_goals (rw [rep0];exact rfl)) ?_
    by_cases hsum : s8 = s.drop 56
    · rw [decide_eq_true hsum] at e1
      by_cases hz : tz = List.replicate (48 - nn) 0
      · rw [decide_eq_true hz] at e2
        repeat' (first | (refine SS_ ?_) | (refine VC.drawm (id:=8) [(0,0),(1,0),(2,3),(3,7),(4,15),(5,31),(6,63),(7,127),(8,255),(9,511),(10,1023),(11,2047),(12,4095),(13,8191),(14,16383),(15,32767),(16,65535),(17,131071),(18,32767),(19,294911),(20,1048575),(21,2097151),(22,4194303),(23,8388607),(24,16777215),(25,33554431),(26,67108863),(27,134217727),(28,268435455),(29,536870911),(30,1073741823),(31,2147483647),(32,4294967295),(33,8589934591),(34,17179869183),(35,34359738367),(36,68719476735),(37,17179869183),(38,274877906943),(39,549755813887),(40,1099511627775)] [] (by rfl) (by kernel_rfl) (by rfl) ?_) | (refine DSeq.callp true (e1) Tryz.func76 gK_ok subG.nil (by rfl) (fastE (by rfl)) (fastH (by rfl)) (by rfl) (by rfl) rfl rfl rfl rfl rfl (by rfl) (by rfl) (by exact View.pair (view_sub (s:=sm) (by rfl) ⟨rfl,rfl⟩ h32 (by decide) e8) (View.pair (view_sub (s:=s) (by rfl) ⟨rfl,rfl⟩ h64 (by decide) (by rw [List.take_of_length_le (by rw [List.length_drop,h64];decide)];rfl)) VW_)) NI_ NI_ FR_ ?_) | (refine DSeq.callp true (e2) Tryz.func76 gK_ok subG.nil (by rfl) (fastE (by rfl)) (fastH (by rfl)) (by rfl) (by rfl) rfl rfl rfl rfl rfl (by rfl) (by rfl) (by exact View.pair (view_sub (s:=s) (by rfl) ⟨rfl,rfl⟩ h64 (by omega) (hT _ _ (by omega) (by omega))) (View.pair (view_sub (s:=List.replicate (48 - nn) 0) (by rfl) ⟨rfl,rfl⟩ (by simp) (by omega) (by rw [List.drop_zero,List.take_of_length_le (by simp)])) VW_)) NI_ NI_ FR_ ?_) | (refine VC.litT (by rfl) LTR_ ?_) | (refine VC.litF (by rfl) LFA_ ?_) | (refine DD_ ?_) | (refine DSeq.litC2 (by rfl) (by rfl) (by rfl) (by rfl) (by rfl) (fun hb=>?_) (fun hb=>?_) <;> (fail_if_success (with_reducible have:=litT_ hb)) <;> (fail_if_success (with_reducible have:=litF_ hb)) <;> (try simp only [HB_] at hb) <;> (try (exfalso;first | omega | (cases hb;done)))) | fail)
        all_goals first | (rw [hv (fun hf=>by have:=fn hf;omega)];(refine retC_mk ([(2,.ptr 0 [])]) ([(0,partZ)]) 5 (Sim.less [] (by rfl) R_ R_) (retQ_ok (by rfl) [] nil_sub ⟨?_,?_⟩)) <;> rfl) | (rw [hu (ff hsum ⟨by omega,by omega,by omega,by omega⟩ hz),show List.drop (Int.toNat 8) (List.take (8 + (nn : Int)).toNat s) = (s.drop 8).take nn by rw [List.drop_take];exact congrArg (fun k=>List.take k (s.drop 8)) (by omega)];(refine retC_mk ([(2,.ptr 0 [])]) ([(0,partV num part left ((s.drop 8).take nn) true)]) 5 (Sim.less [] (by rfl) R_ R_) (retQ_ok (by rfl) [] nil_sub ⟨?_,?_⟩)) <;> rfl) | fail
      · rw [decide_eq_false hz] at e2
        rw [hv (fun hf=>hz (fz hf))]
        repeat' (first | (refine SS_ ?_) | (refine VC.drawm (id:=8) [(0,0),(1,0),(2,3),(3,7),(4,15),(5,31),(6,63),(7,127),(8,255),(9,511),(10,1023),(11,2047),(12,4095),(13,8191),(14,16383),(15,32767),(16,65535),(17,131071),(18,32767),(19,294911),(20,1048575),(21,2097151),(22,4194303),(23,8388607),(24,16777215),(25,33554431),(26,67108863),(27,134217727),(28,268435455),(29,536870911),(30,1073741823),(31,2147483647),(32,4294967295),(33,8589934591),(34,17179869183),(35,34359738367),(36,68719476735),(37,17179869183),(38,274877906943),(39,549755813887),(40,1099511627775)] [] (by rfl) (by kernel_rfl) (by rfl) ?_) | (refine DSeq.callp true (e1) Tryz.func76 gK_ok subG.nil (by rfl) (fastE (by rfl)) (fastH (by rfl)) (by rfl) (by rfl) rfl rfl rfl rfl rfl (by rfl) (by rfl) (by exact View.pair (view_sub (s:=sm) (by rfl) ⟨rfl,rfl⟩ h32 (by decide) e8) (View.pair (view_sub (s:=s) (by rfl) ⟨rfl,rfl⟩ h64 (by decide) (by rw [List.take_of_length_le (by rw [List.length_drop,h64];decide)];rfl)) VW_)) NI_ NI_ FR_ ?_) | (refine DSeq.callp true (e2) Tryz.func76 gK_ok subG.nil (by rfl) (fastE (by rfl)) (fastH (by rfl)) (by rfl) (by rfl) rfl rfl rfl rfl rfl (by rfl) (by rfl) (by exact View.pair (view_sub (s:=s) (by rfl) ⟨rfl,rfl⟩ h64 (by omega) (hT _ _ (by omega) (by omega))) (View.pair (view_sub (s:=List.replicate (48 - nn) 0) (by rfl) ⟨rfl,rfl⟩ (by simp) (by omega) (by rw [List.drop_zero,List.take_of_length_le (by simp)])) VW_)) NI_ NI_ FR_ ?_) | (refine VC.litT (by rfl) LTR_ ?_) | (refine DD_ ?_) | (refine DSeq.litC2 (by rfl) (by rfl) (by rfl) (by rfl) (by rfl) (fun hb=>?_) (fun hb=>?_) <;> (fail_if_success (with_reducible have:=litT_ hb)) <;> (fail_if_success (with_reducible have:=litF_ hb)) <;> (try simp only [HB_] at hb) <;> (try (exfalso;first | omega | (cases hb;done)))) | fail)
        all_goals ((refine retC_mk ([(2,.ptr 0 [])]) ([(0,partZ)]) 5 (Sim.less [] (by rfl) R_ R_) (retQ_ok (by rfl) [] nil_sub ⟨?_,?_⟩)) <;> rfl)
    · rw [decide_eq_false hsum] at e1
      rw [hv (fun hf=>hsum (fs hf))]
      repeat' (first | (refine SS_ ?_) | (refine VC.drawm (id:=8) [(0,0),(1,0),(2,3),(3,7),(4,15),(5,31),(6,63),(7,127),(8,255),(9,511),(10,1023),(11,2047),(12,4095),(13,8191),(14,16383),(15,32767),(16,65535),(17,131071),(18,32767),(19,294911),(20,1048575),(21,2097151),(22,4194303),(23,8388607),(24,16777215),(25,33554431),(26,67108863),(27,134217727),(28,268435455),(29,536870911),(30,1073741823),(31,2147483647),(32,4294967295),(33,8589934591),(34,17179869183),(35,34359738367),(36,68719476735),(37,17179869183),(38,274877906943),(39,549755813887),(40,1099511627775)] [] (by rfl) (by kernel_rfl) (by rfl) ?_) | (refine DSeq.callp true (e1) Tryz.func76 gK_ok subG.nil (by rfl) (fastE (by rfl)) (fastH (by rfl)) (by rfl) (by rfl) rfl rfl rfl rfl rfl (by rfl) (by rfl) (by exact View.pair (view_sub (s:=sm) (by rfl) ⟨rfl,rfl⟩ h32 (by decide) e8) (View.pair (view_sub (s:=s) (by rfl) ⟨rfl,rfl⟩ h64 (by decide) (by rw [List.take_of_length_le (by rw [List.length_drop,h64];decide)];rfl)) VW_)) NI_ NI_ FR_ ?_) | (refine VC.litT (by rfl) LTR_ ?_) | (refine DD_ ?_) | fail)
      all_goals ((refine retC_mk ([(2,.ptr 0 [])]) ([(0,partZ)]) 5 (Sim.less [] (by rfl) R_ R_) (retQ_ok (by rfl) [] nil_sub ⟨?_,?_⟩)) <;> rfl)
  · refine Ok.of_vcC tt_ok Tryz.func48 rfl rfl (by show 1 ≤ _;decide) 0 (hlt_ok (by rfl)) fun c0=>?_
    repeat' (first | (refine SS_ ?_) | (refine VC.litT (by rfl) LTR_ ?_) | fail)
    rw [unp_no fun h=>h64 h.len]
    (refine retC_mk ([(2,.ptr 0 [])]) ([(0,partZ)]) 1 (Sim.less [] (by rfl) R_ R_) (retQ_ok (by rfl) [] nil_sub ⟨?_,?_⟩)) <;> rfl
end Go.Proofs.YtmbldnahcmkpgaaGreatDoor
