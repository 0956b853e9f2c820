/- Disks: full, New of the reference, start, SameTexts. dioramalaw41.sanity: the example, step by step. dioramalaw41.sanity walks. Scripts of disks: Text, do. Scripts of disks: an operation. Scripts of disks: what stays; runs. The reference's Image, Pending, Worn. The reference's SameInts and Clone. The program's disks and the reference's: how they correspond. -/
import Derived.Test.YtmbldnahcmkpgaaGreatDoorDj
import Derived.Test.YtmbldnahcmkpgaaGreatDoorFo
set_option linter.unusedSimpArgs false
set_option linter.unusedVariables false
namespace Go.Proofs.YtmbldnahcmkpgaaGreatDoor
open Go.V Go.RowKit Go.L Go.Dk
def fullS (c : UInt8) : Bs:=List.replicate 64 c
def sec0 : Sec:=⟨zs,[],false,false⟩
theorem rep_sec {m i : Nat} (h : i < m) : (List.replicate m sec0).getD i secZ = sec0:=by
  rw [List.getD_eq_getElem?_getD,List.getElem?_replicate,if_pos h];rfl
set_option maxRecDepth 10000 in
set_option maxHeartbeats 1000000 in
theorem rnew_ok (s : Int) (h0 : 1 ≤ s) (h1 : s ≤ 4096) : Ok Tryz.prog 8 [] [] (.pair (.int .i64 s) .nul)
    (fun r h'=>r = .tup (.pair (.ptr 0 []) (.pair (.int .i64 0) .nul))∧h' = [(0,rdA s.toNat 1 false (-1)),(1,secsA s.toNat (List.replicate s.toNat sec0))]):=by
  refine Ok.of_vcC tt_ok Tryz.func8 rfl rfl (by show 1 ≤ _;decide) 0 (hlt_ok (by rfl)) fun c0=>?_
  repeat' (first | (refine SS_ ?_) | (refine Seq.lit (by rfl) (by rfl) LT2_ ?_) | (refine VC.litF (by rfl) LFA_ ?_) | fail)
  refine VC.conv (Sim.ghostF 0 0 4 (fun i=>secA (([] : List Sec).getD i secZ)) (by rfl) (by rfl) (by rfl)) ?_
  refine VC.loop (fun k : Nat=>⟨[(5,.int .i64 (k : Nat)),(4,.ptr 0 []),(0,.int .i64 s)],[(1,secsA k (List.replicate k sec0)),(0,rdA k 1 false (-1))],[],2⟩) (fun k=>(k : Int) ≤ s) (fun k=>s.toNat - k) 0 (by omega) (Sim.less [] (by rfl) R_ R_) fun k hk=>?_
  by_cases hks : (k : Int) < s
  · repeat' (first | (refine SS_ ?_) | (refine VC.litT (by rfl) LTR_ ?_) | fail)
    refine VC.drawmB [(1,secsA k (List.replicate k sec0))] [(0,0),(1,0),(2,2),(3,6),(4,14),(5,0),(6,32),(7,96),(8,224),(9,510),(10,1023),(11,2047)] [12] (by rfl) (by rfl) (by kernel_rfl) (by rfl) ?_
    refine D_ ?_
    refine DSeq.str zs tt_ok (by rfl) (fastE (by rfl)) (fastH (by rfl)) (by rfl) (by rfl) (by rfl) (by rfl) (by rfl) (by (first | exact trivial | exact u8_in _ rfl | exact u32_in _ rfl | ((with_reducible refine AllP.guard ?_);simp only [AllP,inI,fitV,maxK,inK,inbL,inb,List.append,List.cons_append,List.nil_append,true_and,and_true];first | done | omega))) (by rfl) (.inl rfl) (by rfl) (by rfl) ?_ ?_ ?_
    · rfl
    · intro i hi
      rw [zs_get]
      rfl
    refine D_ ?_
    refine DSeq.eata true tt_ok (by rfl) (fastE (by rfl)) (fastH (by rfl)) (fastH (by rfl)) (by rfl) (by (first | exact trivial | exact u8_in _ rfl | exact u32_in _ rfl | ((with_reducible refine AllP.guard ?_);simp only [AllP,inI,fitV,maxK,inK,inbL,inb,List.append,List.cons_append,List.nil_append,true_and,and_true];first | done | omega))) (by rfl) rfl (by rfl) ?_
    refine D_ ?_
    repeat' (first | (refine SS_ ?_) | fail)
    refine ⟨k + 1,by omega,by omega,?_⟩
    (refine Sim.less [(1,4)] (by rfl) ?_ ?_ <;> (repeat' (first | (exact EnvLe.nil) | (exact HeapLe.nil) | (with_reducible apply EnvLe.cons) | (with_reducible apply HeapLe.cons) | ((with_reducible refine RelA.int ?_;first | (refine Keep.mk ?_;first | with_reducible rfl | omega | decide) | skip)) | (exact rfl) | (exact ⟨rfl,rfl⟩) | (with_reducible refine RelA.pair ?_ ?_) | ((refine RelA.arr ?_;intro i hi)) | fail)) <;> (try with_reducible refine Keep.mk ?_))
    rw [rep_sec hi]
    by_cases hik : i < k
    · rw [joinF_lt hik,rep_sec hik]
      exact rel_sec
    · obtain rfl : i = k:=by omega
      rw [joinF_ge (Nat.le_refl _),Nat.sub_self]
      exact rel_sec
  · repeat' (first | (refine SS_ ?_) | (refine VC.litF (by rfl) LFA_ ?_) | fail)
    have hks2 : s.toNat = k:=by omega
    rw [hks2]
    refine retC_mk ([(2,.ptr 0 []),(3,.int .i64 0)]) ([(0,rdA k 1 false (-1)),(1,secsA k (List.replicate k sec0))]) 2 ?_ (retQ_ok (by rfl) ([(0,rdA k 1 false (-1)),(1,secsA k (List.replicate k sec0))]) (fun i av h=>h) ⟨?_,?_⟩)
    · exact (Sim.less [] (by rfl) R_ R_)
    · rfl
    · rfl
abbrev dR (n : Nat) (B : List Bs) (P : PM) (W : WM) (off : Bool) (left : Int) (S : List Sec) (off2 : Bool) (left2 : Int) : Asc :=
  [(0,dskA n 1 2 3 off left),(1,blksA n B),(2,pendA P),(3,wornA W),(4,rdA n 5 off2 left2),(5,secsA n S)]
end Go.Proofs.YtmbldnahcmkpgaaGreatDoor

namespace Go.Proofs.YtmbldnahcmkpgaaGreatDoor
open Go.V Go.RowKit Go.L Go.Dk
def sA : Bs:=fullS 97
def sB : Bs:=fullS 98
def sT : Bs:=tear 3 sA zs
def sX : Bs:=Dk.flip sA 0
end Go.Proofs.YtmbldnahcmkpgaaGreatDoor

namespace Go.Proofs.YtmbldnahcmkpgaaGreatDoor
open Go.V Go.RowKit Go.L Go.Dk
end Go.Proofs.YtmbldnahcmkpgaaGreatDoor

namespace Go.Dk
structure DOp where
  K : Int
  I : Int
  Bit : Int
  T : Bs
  Pk : List Int
def textS (t : Bs) : Bs:=if t.length = 0 ∨ 64 ≤ t.length then t else t ++ List.replicate (64 - t.length) (t.getLastD 0)
end Go.Dk
namespace Go.Proofs.YtmbldnahcmkpgaaGreatDoor
open Go.V Go.RowKit Go.L Go.Dk
structure DOpOk (o : DOp) : Prop where
  k : i64B o.K
  i : i64B o.I
  b : i64B o.Bit
  t : o.T.length ≤ 9223372036854775807
  p : o.Pk.length ≤ 9223372036854775807
end Go.Proofs.YtmbldnahcmkpgaaGreatDoor

namespace Go.Proofs.YtmbldnahcmkpgaaGreatDoor
open Go.V Go.RowKit Go.L Go.Dk
abbrev dD (n : Nat) (D : Disk) : Asc:=dH n D.B D.P D.W D.off D.left
def doD (n : Nat) (D : Disk) (o : DOp) : Disk :=
  if o.K = 1 then ⟨D.B,if wrE n D.off D.left o.I (textS o.T) = 0 then mSet D.P o.I (textS o.T) else D.P,D.W,if wrGo n D.off o.I (textS o.T) = true then stpO D.off D.left else D.off,if wrGo n D.off o.I (textS o.T) = true then stpL D.left else D.left⟩
  else if o.K = 2 then D
  else if o.K = 3 then (if D.off = true then D else if D.left = 0 then ⟨D.B,D.P,D.W,true,D.left⟩ else ⟨(allB [] D.B D.P D.W).1,(allB [] D.B D.P D.W).2,D.W,D.off,stpL D.left⟩)
  else if o.K = 4 then ⟨D.B,D.P,D.W,D.off,o.I⟩
  else if o.K = 5 then ⟨(allB o.Pk D.B D.P D.W).1,(allB o.Pk D.B D.P D.W).2,D.W,false,-1⟩
  else if o.K = 6 then ⟨if rotBad n o.I o.Bit then D.B else D.B.set o.I.toNat (flip (D.B.getD o.I.toNat []) o.Bit.toNat),D.P,D.W,D.off,D.left⟩
  else if o.K = 7 then ⟨D.B,D.P,if bad n o.I then D.W else mSet D.W o.I true,D.off,D.left⟩
  else D
def doE (n : Nat) (D : Disk) (o : DOp) : Int :=
  if o.K = 1 then wrE n D.off D.left o.I (textS o.T)
  else if o.K = 2 then chk n D.off o.I
  else if o.K = 3 then (if D.off = true then 20 else if D.left = 0 then 20 else 0)
  else if o.K = 6 then (if rotBad n o.I o.Bit then 1 else 0)
  else if o.K = 7 then (if bad n o.I then 1 else 0)
  else 0
abbrev GoodD (n : Nat) (D : Disk) : Prop:=Good n D.B D.P D.W D.left
section
variable {n : Nat} {B : List Bs} {P : PM} {W : WM} {off : Bool} {left : Int} {K I Bit : Int} {T : Bs} {Pk : List Int}
set_option maxRecDepth 10000
set_option maxHeartbeats 1000000
end
end Go.Proofs.YtmbldnahcmkpgaaGreatDoor

namespace Go.Dk
theorem flip_len (b : Bs) (k : Nat) : (flip b k).length = b.length:=by unfold flip;rw [List.length_set]
theorem flip_get (b : Bs) (k j : Nat) (h : k / 8 < b.length) : (flip b k).getD j 0 = if j = k / 8 then b.getD (k / 8) 0 ^^^ UInt8.ofNat (2 ^ (k % 8)) else b.getD j 0:=by
  unfold flip
  rw [List.getD_eq_getElem?_getD,List.getElem?_set]
  by_cases e : k / 8 = j
  · rw [if_pos e,if_pos (by omega),if_pos e.symm];rfl
  · rw [if_neg e,if_neg (fun h=>e h.symm),List.getD_eq_getElem?_getD]
end Go.Dk
namespace Go.Proofs.YtmbldnahcmkpgaaGreatDoor
open Go.V Go.RowKit Go.L Go.Dk
variable {n : Nat} {B : List Bs} {P : PM} {W : WM} {off : Bool} {left : Int}
theorem Good.left' (h : Good n B P W left) {l2 : Int} (hl : i64B l2) : Good n B P W l2:=⟨h.n0,h.n1,h.len,h.b64,h.p64,h.pnd,h.pin,h.wnd,h.win,hl⟩
theorem stpL_64 (h : i64B left) : i64B (stpL left):=by
  obtain ⟨h1,h2⟩:=h
  unfold stpL
  split <;> constructor <;> omega
theorem allB_nil (h : Good n B P W left) (picks : List Int) : (allB picks B P W).2 = []:=by
  have h1:=(inv_take h picks _ (Nat.le_refl _)).1
  rw [List.take_length] at h1
  have h2:=h1.find
  show (setB W picks 0 (sortI (P.map (·.1))) (B,P)).2 = []
  generalize (setB W picks 0 (sortI (P.map (·.1))) (B,P)).2 = P2 at *
  cases P2 with
  | nil=>rfl
  | cons q r =>
    have h3:=h2 q.1
    rw [mFind,if_pos rfl] at h3
    split at h3
    · cases h3
    · rename_i hn
      refine absurd ((sortI_perm _).mem_iff.2 ?_) hn
      exact List.mem_map.2 ⟨_,mFind_mem h3.symm,rfl⟩
theorem good_allB (h : Good n B P W left) (picks : List Int) {l2 : Int} (hl : i64B l2) : Good n (allB picks B P W).1 (allB picks B P W).2 W l2:=by
  have h1:=(inv_take h picks _ (Nat.le_refl _)).1
  rw [List.take_length] at h1
  have h2 : (allB picks B P W).2 = []:=allB_nil h picks
  rw [h2]
  refine ⟨h.n0,h.n1,h1.len,h1.b64,fun q hq=>(by cases hq),List.nodup_nil,fun q hq=>(by cases hq),h.wnd,h.win,hl⟩
theorem m1_64 : i64B (-1):=⟨by decide,by decide⟩
theorem good_do {D : Disk} (h : GoodD n D) {o : DOp} (ho : DOpOk o) : GoodD n (doD n D o):=by
  unfold doD
  split
  · by_cases hg : wrGo n D.off o.I (textS o.T) = true
    · have hg':=hg
      unfold wrGo at hg'
      rw [Bool.and_eq_true,decide_eq_true_eq,decide_eq_true_eq] at hg'
      obtain ⟨_,hb⟩:=chk_zero hg'.1
      have hl:=stpL_64 h.l64
      show Good n D.B (if wrE n D.off D.left o.I (textS o.T) = 0 then mSet D.P o.I (textS o.T) else D.P) D.W (if wrGo n D.off o.I (textS o.T) = true then stpL D.left else D.left)
      rw [if_pos hg]
      split
      · refine ⟨h.n0,h.n1,h.len,h.b64,fun q hq=>?_,mSet_nodup h.pnd,fun q hq=>?_,h.wnd,h.win,hl⟩
        · rcases mSet_mem q hq with rfl | hq
          · exact hg'.2
          · exact h.p64 q hq
        · rcases mSet_mem q hq with rfl | hq
          · exact hb
          · exact h.pin q hq
      · exact h.left' hl
    · show Good n D.B (if wrE n D.off D.left o.I (textS o.T) = 0 then mSet D.P o.I (textS o.T) else D.P) D.W (if wrGo n D.off o.I (textS o.T) = true then stpL D.left else D.left)
      rw [if_neg hg,if_neg]
      · exact h
      · intro he
        apply hg
        unfold wrE at he
        unfold wrGo
        split at he
        · rename_i hc;exact absurd he hc
        · rename_i hc
          split at he
          · cases he
          · rename_i hs
            rw [Bool.and_eq_true,decide_eq_true_eq,decide_eq_true_eq]
            exact ⟨by simpa using hc,by simpa using hs⟩
  split
  · exact h
  split
  · split
    · exact h
    split
    · exact h
    · exact good_allB h [] (stpL_64 h.l64)
  split
  · exact h.left' ho.i
  split
  · exact good_allB h o.Pk m1_64
  split
  · by_cases hr : rotBad n o.I o.Bit
    · show Good n (if rotBad n o.I o.Bit then D.B else _) D.P D.W D.left
      rw [if_pos hr];exact h
    · show Good n (if rotBad n o.I o.Bit then D.B else _) D.P D.W D.left
      rw [if_neg hr]
      refine ⟨h.n0,h.n1,by rw [List.length_set];exact h.len,fun b hb=>?_,h.p64,h.pnd,h.pin,h.wnd,h.win,h.l64⟩
      rcases List.mem_or_eq_of_mem_set hb with hb | hb
      · exact h.b64 b hb
      · rw [hb,flip_len]
        refine h.b64 _ (getD_mem ?_)
        unfold rotBad bad at hr
        rw [h.len];omega
  split
  · by_cases hr : bad n o.I
    · show Good n D.B D.P (if bad n o.I then D.W else _) D.left
      rw [if_pos hr];exact h
    · show Good n D.B D.P (if bad n o.I then D.W else _) D.left
      rw [if_neg hr]
      refine ⟨h.n0,h.n1,h.len,h.b64,h.p64,h.pnd,h.pin,mSet_nodup h.wnd,fun q hq=>?_,h.l64⟩
      rcases mSet_mem q hq with rfl | hq
      · unfold bad at hr;constructor <;> (show _;omega)
      · exact h.win q hq
  · exact h
def newD (n : Nat) : Disk:=⟨List.replicate n zs,[],[],false,-1⟩
theorem good_new (h0 : 0 < n) (h1 : n ≤ 4096) : GoodD n (newD n) :=
  ⟨h0,h1,List.length_replicate,fun b hb=>by rw [List.eq_of_mem_replicate hb];decide,fun q hq=>(by cases hq),List.nodup_nil,fun q hq=>(by cases hq),List.nodup_nil,fun q hq=>(by cases hq),m1_64⟩
end Go.Proofs.YtmbldnahcmkpgaaGreatDoor

namespace Go.Dk
def picked (t : Nat→Bool) : Nat→List Int
  | 0=>[]
  | k + 1=>if t k = true then picked t k ++ [(k : Int)] else picked t k
theorem picked_mem (t : Nat→Bool) : ∀ k x,x ∈ picked t k ↔ 0 ≤ x∧x < k∧t x.toNat = true
  | 0,x=>by simp [picked];omega
  | k + 1,x=>by
    rw [picked]
    by_cases h : t k = true
    · rw [if_pos h,List.mem_append,picked_mem t k x,List.mem_singleton]
      constructor
      · rintro (h1 | rfl)
        · exact ⟨h1.1,by omega,h1.2.2⟩
        · exact ⟨by omega,by omega,by simpa using h⟩
      · intro h1
        by_cases e : x = k
        · exact .inr e
        · exact .inl ⟨h1.1,by omega,h1.2.2⟩
    · rw [if_neg h,picked_mem t k x]
      constructor
      · exact fun h1=>⟨h1.1,by omega,h1.2.2⟩
      · intro h1
        refine ⟨h1.1,?_,h1.2.2⟩
        by_cases e : x = k
        · rw [e] at h1;exact absurd (by simpa using h1.2.2) h
        · omega
theorem picked_sorted (t : Nat→Bool) : ∀ k,(picked t k).Pairwise (fun x y=>x < y)
  | 0=>List.Pairwise.nil
  | k + 1=>by
    rw [picked]
    split
    · refine List.pairwise_append.2 ⟨picked_sorted t k,List.pairwise_singleton _ _,fun a ha b hb=>?_⟩
      rw [List.mem_singleton.1 hb]
      exact ((picked_mem t k a).1 ha).2.1
    · exact picked_sorted t k
theorem sortI_picked (t : Nat→Bool) (n : Nat) {l : List Int} (hn : l.Nodup) (h : ∀ x,x ∈ l ↔ 0 ≤ x∧x < n∧t x.toNat = true) : sortI l = picked t n:=by
  refine sortI_eq ?_ (picked_sorted t n)
  refine (List.perm_ext_iff_of_nodup hn ((picked_sorted t n).imp fun h=>by omega)).2 fun x=>?_
  rw [h x,picked_mem]
end Go.Dk
namespace Go.Proofs.YtmbldnahcmkpgaaGreatDoor
open Go.V Go.RowKit Go.L Go.Dk
variable {n : Nat} {S : List Sec} {off : Bool} {left : Int}
set_option maxRecDepth 10000
set_option maxHeartbeats 1000000
theorem rimage_ok (hn : n ≤ 4096) : Ok Tryz.prog 32 [] (rH n S off left) (.pair (.ptr 0 []) .nul)
    (fun r h'=>r = .sl 2 [] 1 0 n∧h' = (2,.arr n 1 (fun i=>.str (S.getD i secZ).T))::rH n S off left):=by
  refine Ok.of_vcC tt_ok Tryz.func32 rfl rfl (by show 1 ≤ _;decide) 2 (hlt_ok (by rfl)) fun c0=>?_
  repeat' (first | (refine SS_ ?_) | fail)
  refine VC.conv (Sim.ghost 3 1 (fun _=>.nul) (by rfl) (.inl rfl)) ?_
  refine VC.loop (fun k : Nat=>⟨[(4,.int .i64 (k : Nat)),(3,.sl 2 [] 1 0 k),(0,.ptr 0 [])],(2,.arr k 1 (fun i=>.str (S.getD i secZ).T))::rH n S off left,[],3⟩) (fun k=>k ≤ n) (fun k=>n - k) 0 (by omega) (by
    (refine Sim.less [] (by rfl) ?_ ?_ <;> (repeat' (first | (exact EnvLe.nil) | (exact HeapLe.nil) | (with_reducible apply EnvLe.cons) | (with_reducible apply HeapLe.cons) | ((with_reducible refine RelA.int ?_;first | (refine Keep.mk ?_;first | with_reducible rfl | omega | decide) | skip)) | (exact rfl) | (exact ⟨rfl,rfl⟩) | ((with_reducible refine RelA.arr ?_;intro i hi)) | (with_reducible refine RelA.pair ?_ ?_) | fail)) <;> (try with_reducible refine Keep.mk ?_))
    exact absurd hi (Nat.not_lt_zero _)) fun k hk=>?_
  by_cases hkn : k < n
  · repeat' (first | (refine SS_ ?_) | (refine VC.litT (by rfl) LTR_ ?_) | fail)
    refine ⟨k + 1,by omega,by omega,?_⟩
    (refine Sim.less [(2,4)] (by rfl) ?_ ?_ <;> (repeat' (first | (exact EnvLe.nil) | (exact HeapLe.nil) | (with_reducible apply EnvLe.cons) | (with_reducible apply HeapLe.cons) | ((with_reducible refine RelA.int ?_;first | (refine Keep.mk ?_;first | with_reducible rfl | omega | decide) | skip)) | (exact rfl) | (exact ⟨rfl,rfl⟩) | ((with_reducible refine RelA.arr ?_;intro i hi)) | (with_reducible refine RelA.pair ?_ ?_) | ((refine RelA.arr ?_;intro i hi)) | fail)) <;> (try with_reducible refine Keep.mk ?_))
    by_cases hik : i < k
    · rw [joinF_lt hik]
      rfl
    · obtain rfl : i = k:=by omega
      rw [joinF_ge (Nat.le_refl _),Nat.sub_self,show 0 + ((i : Nat) : Int).toNat = i by omega]
      exact rfl
  · repeat' (first | (refine SS_ ?_) | (refine VC.litF (by rfl) LFA_ ?_) | fail)
    have : k = n:=by omega
    subst this
    refine retC_mk ([(2,.sl 2 [] 1 0 k)]) ((2,.arr k 1 (fun i=>.str (S.getD i secZ).T))::rH k S off left) 3 ?_ (retQ_ok (by rfl) ((2,.arr k 1 (fun i=>.str (S.getD i secZ).T))::rH k S off left) (fun i av h=>h) ⟨?_,?_⟩)
    · exact (Sim.less [] (by rfl) R_ R_)
    · rfl
    · rfl
end Go.Proofs.YtmbldnahcmkpgaaGreatDoor

namespace Go.Proofs.YtmbldnahcmkpgaaGreatDoor
open Go.V Go.RowKit Go.L Go.Dk
set_option maxRecDepth 10000
set_option maxHeartbeats 1000000
end Go.Proofs.YtmbldnahcmkpgaaGreatDoor

namespace Go.Proofs.YtmbldnahcmkpgaaGreatDoor
open Go.V Go.RowKit Go.L Go.Dk
def secAt (B : List Bs) (P : PM) (W : WM) (i : Nat) : Sec:=⟨B.getD i [],(mFind P (i : Int)).getD [],(mFind P (i : Int)).isSome,isW W i⟩
def secs (n : Nat) (B : List Bs) (P : PM) (W : WM) : List Sec:=(List.range n).map (secAt B P W)
variable {n : Nat} {B : List Bs} {P : PM} {W : WM}
theorem secs_len : (secs n B P W).length = n:=by unfold secs;rw [List.length_map,List.length_range]
theorem secs_get {i : Nat} (h : i < n) : (secs n B P W).getD i secZ = secAt B P W i:=by
  unfold secs
  rw [List.getD_eq_getElem?_getD,List.getElem?_map,List.getElem?_range h];rfl
theorem secs_elem {j : Nat} (h : j < (secs n B P W).length) : (secs n B P W)[j] = secAt B P W j:=by simp [secs]
theorem secs_set {i : Nat} {B' : List Bs} {P' : PM} {W' : WM} {x : Sec} (hx : x = secAt B' P' W' i) (h : ∀ j,j < n→j ≠ i→secAt B' P' W' j = secAt B P W j) : (secs n B P W).set i x = secs n B' P' W':=by
  subst hx
  refine List.ext_getElem (by rw [List.length_set,secs_len,secs_len]) fun j h1 h2=>?_
  rw [secs_len] at h2
  rw [List.getElem_set]
  rw [secs_elem,secs_elem]
  by_cases e : i = j
  · rw [if_pos e,e]
  · rw [if_neg e];exact (h j h2 fun e'=>e e'.symm).symm
theorem rmt_secs (picks : List Int) (hB : B.length = n) (hP : (P.map (·.1)).Nodup) : ∀ k,k ≤ n →
    rmt picks k (secs n B P W) = (secs n (setB W picks 0 (picked (fun i=>(mFind P (i : Int)).isSome) k) (B,P)).1 (setB W picks 0 (picked (fun i=>(mFind P (i : Int)).isSome) k) (B,P)).2 W,(picked (fun i=>(mFind P (i : Int)).isSome) k).length) ∧
    (setB W picks 0 (picked (fun i=>(mFind P (i : Int)).isSome) k) (B,P)).1.length = n∧((setB W picks 0 (picked (fun i=>(mFind P (i : Int)).isSome) k) (B,P)).2.map (·.1)).Nodup ∧
    ∀ j : Nat,k ≤ j→mFind (setB W picks 0 (picked (fun i=>(mFind P (i : Int)).isSome) k) (B,P)).2 (j : Int) = mFind P (j : Int)
  | 0,_=>⟨rfl,hB,hP,fun _ _=>rfl⟩
  | k + 1,hk=>by
    obtain ⟨h1,h2,h3,h4⟩:=rmt_secs picks hB hP k (by omega)
    have hps : picked (fun i=>(mFind P (i : Int)).isSome) (k + 1) = if (mFind P (k : Int)).isSome = true then picked (fun i=>(mFind P (i : Int)).isSome) k ++ [(k : Int)] else picked (fun i=>(mFind P (i : Int)).isSome) k:=rfl
    have hr : rmt picks (k + 1) (secs n B P W) = if ((rmt picks k (secs n B P W)).1.getD k secZ).D = true then ((rmt picks k (secs n B P W)).1.set k (setl ((rmt picks k (secs n B P W)).1.getD k secZ) (upto (pickAt picks (rmt picks k (secs n B P W)).2))),(rmt picks k (secs n B P W)).2 + 1) else rmt picks k (secs n B P W):=rfl
    have hsb:=setB_append W picks (picked (fun i=>(mFind P (i : Int)).isSome) k) (k : Int) 0 (B,P)
    have hk4:=h4 k (Nat.le_refl _)
    rw [hr,hps,h1]
    generalize picked (fun i=>(mFind P (i : Int)).isSome) k = L at *
    generalize hS : setB W picks 0 L (B,P) = S at *
    have hD : ((secs n S.1 S.2 W).getD k secZ).D = (mFind P (k : Int)).isSome:=by
      rw [secs_get (by omega),← hk4];rfl
    simp only [hD]
    by_cases hm : (mFind P (k : Int)).isSome = true
    · rw [if_pos hm,if_pos hm,hsb,Nat.zero_add]
      have e : setB W picks L.length [(k : Int)] S = (if isW W (k : Int) = true then S.1 else S.1.set k (tear (upto (pickAt picks L.length)) ((mFind S.2 (k : Int)).getD []) (S.1.getD k [])),mDel S.2 (k : Int)):=rfl
      rw [e]
      have hfd : ∀ j : Nat,mFind (mDel S.2 (k : Int)) (j : Int) = if k = j then none else mFind S.2 (j : Int):=fun j=>by
        rw [mFind_mDel h3]
        by_cases e : k = j
        · rw [if_pos e,if_pos (by omega)]
        · rw [if_neg e,if_neg (by omega)]
      refine ⟨?_,?_,mDel_nodup h3,fun j hj=>?_⟩
      · refine Prod.ext ?_ (by simp)
        refine secs_set ?_ fun j hj hjk=>?_
        · rw [secs_get (by omega)]
          unfold setl secAt
          simp only [hfd,if_true]
          by_cases hw : isW W (k : Int) = true
          · simp [hw]
          · simp only [hw,if_false,Bool.false_eq_true]
            rw [getD_set (by omega)];rfl
        · have hfj:=hfd j
          rw [if_neg (fun e=>hjk e.symm)] at hfj
          unfold secAt
          rw [hfj]
          by_cases hw : isW W (k : Int) = true
          · simp only [hw,if_true]
          · simp only [hw,if_false,Bool.false_eq_true]
            rw [getD_set_ne hjk]
      · show (if isW W (k : Int) = true then S.1 else _ : List Bs).length = n
        split
        · exact h2
        · rw [List.length_set];exact h2
      · show mFind (mDel S.2 (k : Int)) (j : Int) = _
        rw [hfd,if_neg (by omega)];exact h4 j (by omega)
    · rw [if_neg hm,if_neg hm,hS]
      exact ⟨rfl,h2,h3,fun j hj=>h4 j (by omega)⟩
end Go.Proofs.YtmbldnahcmkpgaaGreatDoor
