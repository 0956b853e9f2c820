/- Disks: Rot, Image, New, Clone. Disks: Flush and Mount. -/
import Derived.Test.YtmbldnahcmkpgaaGreatDoorDd
set_option linter.unusedSimpArgs false
set_option linter.unusedVariables false
namespace Go.Proofs.YtmbldnahcmkpgaaGreatDoor
open Go.V Go.RowKit Go.L Go.Dk
variable {n : Nat} {B : List Bs} {P : PM} {W : WM} {off : Bool} {left : Int}
def zs : Bs:=List.replicate 64 0
theorem zs_get (j : Nat) : zs.getD j 0 = 0:=by
  unfold zs
  rw [List.getD_eq_getElem?_getD,List.getElem?_replicate]
  split <;> rfl
theorem new_ok (s : Int) (h0 : 1 ≤ s) (h1 : s ≤ 4096) : Ok Tryz.prog 7 [] [] (.pair (.int .i64 s) .nul)
    (fun r h'=>r = .tup (.pair (.ptr 3 []) (.pair (.int .i64 0) .nul))∧h' = [(3,dskA s.toNat 0 1 2 false (-1)),(0,blksA s.toNat (List.replicate s.toNat zs)),(1,pendA []),(2,wornA [])]):=by
  refine Ok.of_vcC tt_ok Tryz.func7 rfl rfl (by show 1 ≤ _;decide) 0 (hlt_ok (by rfl)) fun c0=>?_
  repeat' (first | (refine SS_ ?_) | (refine Seq.lit (by rfl) (by rfl) LT2_ ?_) | (refine VC.litF (by rfl) LFA_ ?_) | fail)
  refine retC_mk ([(2,.ptr 3 []),(3,.int .i64 0)]) ([(3,dskA s.toNat 0 1 2 false (-1)),(0,blksA s.toNat (List.replicate s.toNat zs)),(1,pendA []),(2,wornA [])]) 4 ?_ (retQ_ok (by rfl) ([(3,dskA s.toNat 0 1 2 false (-1)),(0,blksA s.toNat (List.replicate s.toNat zs)),(1,pendA []),(2,wornA [])]) (fun i av h=>h) ⟨?_,?_⟩)
  · (refine Sim.less [] (by rfl) ?_ ?_ <;> (repeat' (first | (exact EnvLe.nil) | (exact HeapLe.nil) | (with_reducible apply EnvLe.cons) | (with_reducible apply HeapLe.cons) | ((with_reducible refine RelA.int ?_;first | (refine Keep.mk ?_;first | with_reducible rfl | omega | decide) | skip)) | (exact rfl) | (exact ⟨rfl,rfl⟩) | ((refine RelA.arr ?_;intro i hi)) | (refine RelA.pair ?_ ?_) | fail)) <;> (try with_reducible refine Keep.mk ?_))
    · rename_i k hk
      have h2 : (List.replicate s.toNat zs).getD k [] = zs:=by
        rw [List.getD_eq_getElem?_getD,List.getElem?_replicate,if_pos hk];rfl
      rw [h2,zs_get];exact rfl
    · exact ⟨_,_,rfl,fun i hi=>absurd hi (Nat.not_lt_zero _)⟩
    · exact ⟨_,_,rfl,fun i hi=>absurd hi (Nat.not_lt_zero _)⟩
  · rfl
  · rfl
theorem new_bad (s : Int) (h0 : s < 1 ∨ 4096 < s) : Ok Tryz.prog 7 [] [] (.pair (.int .i64 s) .nul)
    (fun r h'=>r = .tup (.pair (.val (.pointer none)) (.pair (.int .i64 1) .nul))∧h' = []):=by
  refine Ok.of_vc tt_ok Tryz.func7 rfl rfl (by show 1 ≤ _;decide) 0 (hlt_ok (by rfl)) fun c0=>?_
  repeat' (first | (refine SS_ ?_) | (refine VC.litT (by rfl) LTR_ ?_) | (((refine retQ_ok (by rfl) [] nil_sub ⟨?_,rfl⟩);try rfl)) | (refine Seq.litC (by rfl) (by rfl) (fun hb=>?_) (fun hb=>?_) <;> (fail_if_success (with_reducible have:=litT_ hb)) <;> (fail_if_success (with_reducible have:=litF_ hb)) <;> (try simp only [HB_] at hb) <;> (try (exfalso;first | omega | (cases hb;done)))) | fail)
theorem xor8' (a b : UInt8) : bits .xor .u8 a.toNat b.toNat = ((a ^^^ b).toNat : Int):=by
  have hw : ∀ b : BitVec 8,IntKind.u8.wrap (b.toNat : Int) = b.toNat:=fun b=>by
    have:=b.isLt
    simp only [IntKind.wrap,IntKind.bits,IntKind.signed];simp;omega
  have ho : ∀ a : UInt8,BitVec.ofNat 8 a.toNat = a.toBitVec:=fun a=>by apply BitVec.eq_of_toNat_eq;simp
  show IntKind.u8.wrap (((BitVec.ofInt 8 (a.toNat : Int)) ^^^ (BitVec.ofInt 8 (b.toNat : Int))).toNat : Int) = _
  rw [show BitVec.ofInt 8 (a.toNat : Int) = BitVec.ofNat 8 a.toNat by simp,show BitVec.ofInt 8 (b.toNat : Int) = BitVec.ofNat 8 b.toNat by simp,ho,ho,hw];rfl
theorem flip_bits (x : UInt8) (bit : Int) (h0 : 0 ≤ bit) : bits .xor .u8 x.toNat (IntKind.u8.wrap (1 * 2 ^ (min (bit % 8).toNat 8))) = ((x ^^^ UInt8.ofNat (2 ^ (bit.toNat % 8))).toNat : Int):=by
  have e : (bit % 8).toNat = bit.toNat % 8:=by omega
  rw [← xor8',e]
  congr 1
  have : bit.toNat % 8 < 8:=Nat.mod_lt _ (by decide)
  generalize bit.toNat % 8 = k at *
  rcases (by omega : k = 0 ∨ k = 1 ∨ k = 2 ∨ k = 3 ∨ k = 4 ∨ k = 5 ∨ k = 6 ∨ k = 7) with rfl | rfl | rfl | rfl | rfl | rfl | rfl | rfl <;> decide
theorem rot_ok (a bit : Int) (hB : B.length = n) (hB64 : ∀ b ∈ B,b.length = 64) : Ok Tryz.prog 28 [] (dH n B P W off left) (.pair (.ptr 0 []) (.pair (.int .i64 a) (.pair (.int .i64 bit) .nul)))
    (fun r h'=>r = .int .i64 (if rotBad n a bit then 1 else 0)∧h' = dH n (if rotBad n a bit then B else B.set a.toNat (flip (B.getD a.toNat []) bit.toNat)) P W off left):=by
  by_cases hr : rotBad n a bit
  · rw [if_pos hr,if_pos hr]
    unfold rotBad bad at hr
    refine Ok.of_vcC tt_ok Tryz.func28 rfl rfl (by show 3 ≤ _;decide) 4 (hlt_ok (by rfl)) fun c0=>?_
    repeat' (first | (refine SS_ ?_) | (refine VC.litT (by rfl) LTR_ ?_) | (refine Seq.litC (by rfl) (by rfl) (fun hb=>?_) (fun hb=>?_) <;> (fail_if_success (with_reducible have:=litT_ hb)) <;> (fail_if_success (with_reducible have:=litF_ hb)) <;> (try simp only [HB_] at hb) <;> (try (exfalso;first | omega | (cases hb;done)))) | fail)
    all_goals
      refine retC_mk ([(6,.int .i64 1)]) (dH n B P W off left) 4 ?_ (retQ_ok (by rfl) (dH n B P W off left) (fun i av h=>h) ⟨?_,?_⟩)
      · exact (Sim.less [] (by rfl) R_ R_)
      · rfl
      · rfl
  · rw [if_neg hr,if_neg hr]
    unfold rotBad bad at hr
    have hin : a.toNat < B.length:=by omega
    have h64 : (B.getD a.toNat []).length = 64:=hB64 _ (getD_mem hin)
    refine Ok.of_vcC tt_ok Tryz.func28 rfl rfl (by show 3 ≤ _;decide) 4 (hlt_ok (by rfl)) fun c0=>?_
    repeat' (first | (refine SS_ ?_) | (refine VC.drawm (id:=3) [(0,0),(1,1),(2,3),(3,7),(4,0),(5,0),(6,32),(7,31),(8,255),(9,511),(10,0),(11,1024),(12,3072),(13,8191),(14,31),(15,32767)] [16] (by rfl) (by kernel_rfl) (by rfl) ?_) | (refine Seq.lit (by rfl) (by rfl) LT2_ ?_) | (refine VC.litF (by rfl) LFA_ ?_) | (refine DD_ ?_) | fail)
    refine retC_mk ([(6,.int .i64 0)]) (dH n (B.set a.toNat (flip (B.getD a.toNat []) bit.toNat)) P W off left) 4 ?_ (retQ_ok (by rfl) (dH n (B.set a.toNat (flip (B.getD a.toNat []) bit.toNat)) P W off left) (fun i av h=>h) ⟨?_,?_⟩)
    · (refine Sim.less [] (by rfl) ?_ ?_ <;> (repeat' (first | (exact EnvLe.nil) | (exact HeapLe.nil) | (with_reducible apply EnvLe.cons) | (with_reducible apply HeapLe.cons) | ((with_reducible refine RelA.int ?_;first | (refine Keep.mk ?_;first | with_reducible rfl | omega | decide) | skip)) | (exact rfl) | (exact ⟨rfl,rfl⟩) | ((with_reducible refine RelA.arr ?_;intro i hi)) | (with_reducible refine RelA.pair ?_ ?_) | (exact NoId.self (by first | ((repeat' (first | exact trivial | exact rfl | refine NoFr.bif ?_ ?_ | refine NoId.bif ?_ ?_ | refine AllFr.bif ?_ ?_ | (intro i hi) | (refine ⟨?_,?_⟩) | (intro e;cases e;done)));done) | fail)) | fail)) <;> (try with_reducible refine Keep.mk ?_))
      by_cases hji : i = a.toNat
      · rw [bif_eq (show i = 0 + a.toNat by omega),hji,getD_set hin,Nat.zero_add]
        refine rel_blk fun q hq=>?_
        have e8 : (bit / 8).toNat = bit.toNat / 8:=by omega
        have hlt : bit.toNat / 8 < 64:=by omega
        show (bif Nat.beq q (bit / 8).toNat then _ else _) = _
        unfold Dk.flip
        by_cases hqk : q = bit.toNat / 8
        · rw [bif_eq (by omega),hqk,getD_set (by omega),e8,← flip_bits _ _ (by omega)]
          try rfl
        · rw [bif_ne (by omega),getD_set_ne hqk]
          try rfl
      · rw [bif_ne (show i ≠ 0 + a.toNat by omega),getD_set_ne hji]
        exact NoId.self NI_
    · rfl
    · rfl
def strO (m : Nat) (L : List Bs) : AV:=.arr m 1 (fun i=>.str (L.getD i []))
def imgP (B : List Bs) (k : Nat) : List Bs:=(B.take k) ++ List.replicate (B.length - k) []
theorem imgP_get (B : List Bs) (k j : Nat) (hk : k ≤ B.length) : (imgP B k).getD j [] = if j < k then B.getD j [] else []:=by
  unfold imgP
  rw [List.getD_eq_getElem?_getD]
  by_cases h : j < k
  · rw [if_pos h,List.getElem?_append_left (by rw [List.length_take];omega),List.getElem?_take_of_lt h,List.getD_eq_getElem?_getD]
  · rw [if_neg h,List.getElem?_append_right (by rw [List.length_take];omega),List.getElem?_replicate]
    split <;> rfl
set_option maxRecDepth 10000 in
set_option maxHeartbeats 1000000 in
theorem image_ok (hB : B.length = n) (hB64 : ∀ b ∈ B,b.length = 64) (hn : n ≤ 4096) : Ok Tryz.prog 23 [] (dH n B P W off left) (.pair (.ptr 0 []) .nul)
    (fun r h'=>r = .sl 4 [] 1 0 n∧h' = (4,strO n B)::dH n B P W off left):=by
  refine Ok.of_vcC tt_ok Tryz.func23 rfl rfl (by show 1 ≤ _;decide) 4 (hlt_ok (by rfl)) fun c0=>?_
  repeat' (first | (refine SS_ ?_) | fail)
  refine VC.loop (fun k : Nat=>⟨[(16,.int .i64 (k : Nat)),(15,.int .i64 n),(3,.sl 4 [] 1 0 n),(0,.ptr 0 [])],(4,strO n (imgP B k))::dH n B P W off left,[],5⟩) (fun k=>k ≤ n) (fun k=>n - k) 0 (by omega) (by
    (refine Sim.less [] (by rfl) ?_ ?_ <;> (repeat' (first | (exact EnvLe.nil) | (exact HeapLe.nil) | (with_reducible apply EnvLe.cons) | (with_reducible apply HeapLe.cons) | ((with_reducible refine RelA.int ?_;first | (refine Keep.mk ?_;first | with_reducible rfl | omega | decide) | skip)) | (exact rfl) | (exact ⟨rfl,rfl⟩) | ((with_reducible refine RelA.arr ?_;intro i hi)) | (with_reducible refine RelA.pair ?_ ?_) | ((refine RelA.arr ?_;intro i hi)) | (exact NoId.self (by first | ((repeat' (first | exact trivial | exact rfl | refine NoFr.bif ?_ ?_ | refine NoId.bif ?_ ?_ | refine AllFr.bif ?_ ?_ | (intro i hi) | (refine ⟨?_,?_⟩) | (intro e;cases e;done)));done) | fail)) | fail)) <;> (try with_reducible refine Keep.mk ?_))
    rw [imgP_get B 0 i (by omega),if_neg (by omega)]
    exact rfl) fun k hk=>?_
  have h64 : k < n→(B.getD (0 + ((k : Nat) : Int).toNat) []).length = 64:=fun h=>hB64 _ (getD_mem (by omega))
  by_cases hkn : k < n
  · have h64:=h64 hkn
    repeat' (first | (refine SS_ ?_) | (refine Seq.str (B.getD (0 + ((k : Nat) : Int).toNat) []) tt_ok (by rfl) (by rfl) (by rfl) (by rfl) (by rfl) (by (first | exact trivial | exact u8_in _ rfl | exact u32_in _ rfl | ((with_reducible refine AllP.guard ?_);simp only [AllP,inI,fitV,maxK,inK,inbL,inb,List.append,List.cons_append,List.nil_append,true_and,and_true];first | done | omega))) (by rfl) (.inl rfl) (by rfl) rfl (h64) (fun i hi=>by first | exact rfl | simp only [Nat.zero_add]) ?_) | (refine VC.litT (by rfl) LTR_ ?_) | fail)
    refine ⟨k + 1,by omega,by omega,?_⟩
    (refine Sim.less [] (by rfl) ?_ ?_ <;> (repeat' (first | (exact EnvLe.nil) | (exact HeapLe.nil) | (with_reducible apply EnvLe.cons) | (with_reducible apply HeapLe.cons) | ((with_reducible refine RelA.int ?_;first | (refine Keep.mk ?_;first | with_reducible rfl | omega | decide) | skip)) | (exact rfl) | (exact ⟨rfl,rfl⟩) | ((with_reducible refine RelA.arr ?_;intro i hi)) | (with_reducible refine RelA.pair ?_ ?_) | ((refine RelA.arr ?_;intro i hi)) | (exact NoId.self (by first | ((repeat' (first | exact trivial | exact rfl | refine NoFr.bif ?_ ?_ | refine NoId.bif ?_ ?_ | refine AllFr.bif ?_ ?_ | (intro i hi) | (refine ⟨?_,?_⟩) | (intro e;cases e;done)));done) | fail)) | fail)) <;> (try with_reducible refine Keep.mk ?_))
    rw [imgP_get B (k + 1) i (by omega)]
    by_cases hik : i = k
    · rw [bif_eq (show i = 0 + ((k : Nat) : Int).toNat by omega),if_pos (by omega),hik]
      show _ = AV.str _
      rw [show 0 + ((k : Nat) : Int).toNat = k by omega]
      rfl
    · rw [bif_ne (show i ≠ 0 + ((k : Nat) : Int).toNat by omega)]
      show AV.str ((imgP B k).getD i []) = AV.str _
      rw [imgP_get B k i (by omega)]
      by_cases hlt : i < k
      · rw [if_pos hlt,if_pos (by omega)]
      · rw [if_neg hlt,if_neg (by omega)]
  · repeat' (first | (refine SS_ ?_) | (refine VC.litF (by rfl) LFA_ ?_) | fail)
    refine retC_mk ([(2,.sl 4 [] 1 0 n)]) ((4,strO n B)::dH n B P W off left) 5 ?_ (retQ_ok (by rfl) ((4,strO n B)::dH n B P W off left) (fun i av h=>h) ⟨?_,?_⟩)
    · (refine Sim.less [] (by rfl) ?_ ?_ <;> (repeat' (first | (exact EnvLe.nil) | (exact HeapLe.nil) | (with_reducible apply EnvLe.cons) | (with_reducible apply HeapLe.cons) | ((with_reducible refine RelA.int ?_;first | (refine Keep.mk ?_;first | with_reducible rfl | omega | decide) | skip)) | (exact rfl) | (exact ⟨rfl,rfl⟩) | ((with_reducible refine RelA.arr ?_;intro i hi)) | (with_reducible refine RelA.pair ?_ ?_) | ((refine RelA.arr ?_;intro i hi)) | (exact NoId.self (by first | ((repeat' (first | exact trivial | exact rfl | refine NoFr.bif ?_ ?_ | refine NoId.bif ?_ ?_ | refine AllFr.bif ?_ ?_ | (intro i hi) | (refine ⟨?_,?_⟩) | (intro e;cases e;done)));done) | fail)) | fail)) <;> (try with_reducible refine Keep.mk ?_))
      rw [imgP_get B k i (by omega),if_pos (by omega)]
      exact rfl
    · rfl
    · rfl
end Go.Proofs.YtmbldnahcmkpgaaGreatDoor

namespace Go.Proofs.YtmbldnahcmkpgaaGreatDoor
open Go.V Go.RowKit Go.L Go.Dk
variable {n : Nat} {B : List Bs} {P : PM} {W : WM} {off : Bool} {left : Int}
def setB (W : WM) (picks : List Int) : Nat→List Int→List Bs × PM→List Bs × PM
  | _,[],s=>s
  | k,i::r,s=>setB W picks (k + 1) r (if isW W i = true then s.1 else s.1.set i.toNat (tear (upto (pickAt picks k)) ((mFind s.2 i).getD []) (s.1.getD i.toNat [])),mDel s.2 i)
theorem setB_append (W : WM) (picks : List Int) : ∀ (l : List Int) (x : Int) (k : Nat) (s : List Bs × PM),setB W picks k (l ++ [x]) s = setB W picks (k + l.length) [x] (setB W picks k l s)
  | [],x,k,s=>rfl
  | i::r,x,k,s=>by
    rw [List.cons_append,setB,setB_append W picks r x (k + 1),List.length_cons,show k + 1 + r.length = k + (r.length + 1) by omega]
    rfl
structure Inv (n : Nat) (P0 : PM) (done : List Int) (s : List Bs × PM) : Prop where
  len : s.1.length = n
  b64 : ∀ b ∈ s.1,b.length = 64
  p64 : ∀ q ∈ s.2,q.2.length = 64
  nd : (s.2.map (·.1)).Nodup
  find : ∀ i,mFind s.2 i = if i ∈ done then none else mFind P0 i
theorem inv_step {n : Nat} {P0 : PM} {done : List Int} {s : List Bs × PM} (h : Inv n P0 done s) (W : WM) (m : Nat) (hm : m ≤ 64) {i : Int} {x : Bs} (hx : mFind s.2 i = some x) : Inv n P0 (done ++ [i]) (if isW W i = true then s.1 else s.1.set i.toNat (tear m ((mFind s.2 i).getD []) (s.1.getD i.toNat [])),mDel s.2 i):=by
  refine ⟨?_,?_,fun q hq=>h.p64 q (mDel_sub.subset hq),mDel_nodup h.nd,fun j=>?_⟩
  · show (if isW W i = true then s.1 else _).length = n
    split
    · exact h.len
    · rw [List.length_set];exact h.len
  · intro b hb
    have hb : b ∈ (if isW W i = true then s.1 else s.1.set i.toNat (tear m ((mFind s.2 i).getD []) (s.1.getD i.toNat []))):=hb
    split at hb
    · exact h.b64 b hb
    · rcases Nat.lt_or_ge i.toNat s.1.length with hi | hi
      · rcases List.mem_or_eq_of_mem_set hb with hb | hb
        · exact h.b64 b hb
        · have h1:=h.p64 _ (mFind_mem hx)
          have h2:=h.b64 _ (getD_mem (d:=[]) hi)
          rw [hb,hx]
          unfold tear
          rw [List.length_append,List.length_take,List.length_drop]
          simp only [Option.getD_some] at *
          omega
      · rw [List.set_eq_of_length_le hi] at hb
        exact h.b64 b hb
  · show mFind (mDel s.2 i) j = _
    rw [mFind_mDel h.nd,h.find j]
    by_cases hij : i = j
    · subst hij;simp
    · rw [if_neg hij]
      have hji : ¬ j = i:=fun e=>hij e.symm
      have : j ∈ done ++ [i] ↔ j ∈ done:=by simp [hji]
      simp only [this]
structure Good (n : Nat) (B : List Bs) (P : PM) (W : WM) (left : Int) : Prop where
  n0 : 0 < n
  n1 : n ≤ 4096
  len : B.length = n
  b64 : ∀ b ∈ B,b.length = 64
  p64 : ∀ q ∈ P,q.2.length = 64
  pnd : (P.map (·.1)).Nodup
  pin : ∀ q ∈ P,0 ≤ q.1∧q.1 < n
  wnd : (W.map (·.1)).Nodup
  win : ∀ q ∈ W,0 ≤ q.1∧q.1 < n
  l64 : i64B left
theorem nodup_lt : ∀ (n : Nat) (l : List Nat),l.Nodup→(∀ x ∈ l,x < n)→l.length ≤ n
  | 0,l,_,h=>by
    cases l with
    | nil=>exact Nat.le_refl _
    | cons x r=>exact absurd (h x List.mem_cons_self) (Nat.not_lt_zero _)
  | n + 1,l,hn,h=>by
    have h1:=nodup_lt n (l.erase n) (hn.erase n) fun x hx=>by
      have h2:=(List.Nodup.mem_erase_iff hn).1 hx
      have:=h x h2.2
      omega
    by_cases hm : n ∈ l
    · rw [List.length_erase_of_mem hm] at h1;omega
    · rw [List.erase_of_not_mem hm] at h1;omega
theorem nodup_le {l : List Int} {n : Nat} (hn : l.Nodup) (h : ∀ x ∈ l,0 ≤ x∧x < n) : l.length ≤ n:=by
  have h1 : (l.map Int.toNat).Nodup:=by
    rw [List.Nodup,List.pairwise_map]
    refine List.Pairwise.imp_of_mem (fun {a b} ha hb hne e=>hne ?_) hn
    have:=h a ha
    have:=h b hb
    omega
  have h2 : (l.map Int.toNat) ⊆ List.range n:=fun x hx=>by
    obtain ⟨y,hy,rfl⟩:=List.mem_map.1 hx
    have:=h y hy
    exact List.mem_range.2 (by omega)
  have:=nodup_lt n _ h1 fun x hx=>List.mem_range.1 (h2 hx)
  simpa using this
theorem Good.pl (h : Good n B P W left) : P.length ≤ 4096:=by
  have:=nodup_le h.pnd (n:=n) fun x hx=>by
    obtain ⟨q,hq,rfl⟩:=List.mem_map.1 hx
    exact h.pin q hq
  rw [List.length_map] at this
  have:=h.n1
  omega
theorem inv_take (h : Good n B P W left) (picks : List Int) : ∀ k,k ≤ (sortI (P.map (·.1))).length→Inv n P ((sortI (P.map (·.1))).take k) (setB W picks 0 ((sortI (P.map (·.1))).take k) (B,P)) ∧
    (k < (sortI (P.map (·.1))).length→∃ x,mFind (setB W picks 0 ((sortI (P.map (·.1))).take k) (B,P)).2 ((sortI (P.map (·.1))).getD k 0) = some x∧x.length = 64∧0 ≤ (sortI (P.map (·.1))).getD k 0∧(sortI (P.map (·.1))).getD k 0 < n):=by
  have hp:=sortI_perm (P.map (·.1))
  have hnd : (sortI (P.map (·.1))).Nodup:=hp.nodup_iff.2 h.pnd
  have hmem : ∀ x ∈ sortI (P.map (·.1)),x ∈ P.map (·.1):=fun x hx=>hp.mem_iff.1 hx
  generalize sortI (P.map (·.1)) = L at *
  have hat : ∀ k s,k < L.length→Inv n P (L.take k) s→∃ x,mFind s.2 (L.getD k 0) = some x∧x.length = 64∧0 ≤ L.getD k 0∧L.getD k 0 < n:=fun k s hk hi=>by
    have hin:=hmem _ (getD_mem (d:=0) hk)
    have hnot : L.getD k 0 ∉ L.take k:=fun hm=>by
      obtain ⟨j,hj,e⟩:=List.getElem_of_mem hm
      have hjk : j < k:=by rw [List.length_take] at hj;omega
      rw [List.getElem_take,List.getD_eq_getElem?_getD,List.getElem?_eq_getElem hk,Option.getD_some] at e
      exact List.pairwise_iff_getElem.1 hnd j k (by rw [List.length_take] at hj;omega) hk hjk e
    obtain ⟨x,hx⟩:=mFind_some_of hin
    refine ⟨x,by rw [hi.find,if_neg hnot,hx],h.p64 _ (mFind_mem hx),?_⟩
    exact h.pin _ (mFind_mem hx)
  intro k
  induction k with
  | zero =>
    intro _
    have h0 : Inv n P (L.take 0) (B,P):=⟨h.len,h.b64,h.p64,h.pnd,fun i=>by simp⟩
    exact ⟨h0,fun hk=>hat 0 _ hk h0⟩
  | succ k ih =>
    intro hk
    obtain ⟨h1,h2⟩:=ih (by omega)
    obtain ⟨x,hx,h64,hb⟩:=h2 (by omega)
    have e : L.take (k + 1) = L.take k ++ [L.getD k 0]:=by
      rw [List.take_add_one,List.getD_eq_getElem?_getD,List.getElem?_eq_getElem (by omega : k < L.length)];rfl
    have hlen : (L.take k).length = k:=by rw [List.length_take];omega
    have h3:=inv_step h1 W (upto (pickAt picks k)) (upto_le _) hx
    have e2 : setB W picks 0 (L.take (k + 1)) (B,P) = (if isW W (L.getD k 0) = true then (setB W picks 0 (L.take k) (B,P)).1 else (setB W picks 0 (L.take k) (B,P)).1.set (L.getD k 0).toNat (tear (upto (pickAt picks k)) ((mFind (setB W picks 0 (L.take k) (B,P)).2 (L.getD k 0)).getD []) ((setB W picks 0 (L.take k) (B,P)).1.getD (L.getD k 0).toNat [])),mDel (setB W picks 0 (L.take k) (B,P)).2 (L.getD k 0)):=by
      rw [e,setB_append,hlen,Nat.zero_add];rfl
    rw [← e2,← e] at h3
    exact ⟨h3,fun hk'=>hat (k + 1) _ hk' h3⟩
theorem setB_succ (W : WM) (picks L : List Int) (s : List Bs × PM) (k : Nat) (hk : k < L.length) : setB W picks 0 (L.take (k + 1)) s = (if isW W (L.getD k 0) = true then (setB W picks 0 (L.take k) s).1 else (setB W picks 0 (L.take k) s).1.set (L.getD k 0).toNat (tear (upto (pickAt picks k)) ((mFind (setB W picks 0 (L.take k) s).2 (L.getD k 0)).getD []) ((setB W picks 0 (L.take k) s).1.getD (L.getD k 0).toNat [])),mDel (setB W picks 0 (L.take k) s).2 (L.getD k 0)):=by
  have e : L.take (k + 1) = L.take k ++ [L.getD k 0]:=by
    rw [List.take_add_one,List.getD_eq_getElem?_getD,List.getElem?_eq_getElem hk];rfl
  have hlen : (L.take k).length = k:=by rw [List.length_take];omega
  rw [e,setB_append,hlen,Nat.zero_add];rfl
end Go.Proofs.YtmbldnahcmkpgaaGreatDoor
