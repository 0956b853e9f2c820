/- Disks: Write, Read, settle, Rot, Image, New. -/
import Derived.Test.YtmbldnahcmkpgaaGreatDoorDc
set_option linter.unusedSimpArgs false
set_option linter.unusedVariables false
namespace Go.Proofs.YtmbldnahcmkpgaaGreatDoor
open Go.V Go.RowKit Go.L Go.Dk
variable {n : Nat} {B : List Bs} {P : PM} {W : WM} {off : Bool} {left : Int}
def wrE (n : Nat) (off : Bool) (left : Int) (i : Int) (s : Bs) : Int:=if chk n off i ≠ 0 then chk n off i else if s.length ≠ 64 then 1 else stpE left
def wrGo (n : Nat) (off : Bool) (i : Int) (s : Bs) : Bool:=decide (chk n off i = 0) && decide (s.length = 64)
set_option maxRecDepth 10000 in
theorem write_ok (hl : i64B left) (i : Int) (s : Bs) : Ok Tryz.prog 9 [] (dH n B P W off left) (.pair (.ptr 0 []) (.pair (.int .i64 i) (.pair (.str s) .nul)))
    (fun r h'=>r = .int .i64 (wrE n off left i s)∧h' = dH n B (if wrE n off left i s = 0 then mSet P i s else P) W (if wrGo n off i s = true then stpO off left else off) (if wrGo n off i s = true then stpL left else left)):=by
  have c1:=check_ok (n:=n) (B:=B) (P:=P) (W:=W) (off:=off) (left:=left) i
  have c2:=step_ok (n:=n) (B:=B) (P:=P) (W:=W) (off:=off) hl
  unfold wrE wrGo
  generalize chk n off i = e1 at *
  generalize stpE left = e2 at *
  generalize stpO off left = off2 at *
  generalize stpL left = left2 at *
  refine Ok.of_vc tt_ok Tryz.func9 rfl rfl (by show 3 ≤ _;decide) 4 (hlt_ok (by rfl)) fun c0=>?_
  repeat' (first | (refine SS_ ?_) | (refine VC.drawm (id:=9) [(0,0),(1,1),(2,3),(3,7),(4,0),(5,0),(6,32),(7,96),(8,224)] [9] (by rfl) (by kernel_rfl) (by rfl) ?_) | (refine Seq.callo false [] [] (.int .i64 e1) (dH n B P W off left) 4 (c1) Tryz.func42 GOk.nil subG.nil (by rfl) (by rfl) rfl rfl rfl rfl rfl (by rfl) rfl (by rfl) (by rfl) (by rfl) (by rfl) VW_ NI_ R_ (noFrL_ok NI_) BK_ ?_) | (refine Seq.callo false [] [] (.int .i64 e2) (dH n B P W off2 left2) 4 (c2) Tryz.func43 GOk.nil subG.nil (by rfl) (by rfl) rfl rfl rfl rfl rfl (by rfl) rfl (by rfl) (by rfl) (by rfl) (by rfl) VW_ NI_ R_ (noFrL_ok NI_) BK_ ?_) | (refine Seq.eff (mapUpdate_ok (K:=KI) (V:=blkA) (u:=s) (l:=P) (k:=i) u_pend keyI (by rfl) (by rfl) (by rfl) (by rfl)) (by rfl) (by rfl) ?_) | (refine DD_ ?_) | (refine VC.cond (by rfl) (fun hb=>?_) (fun hb=>?_) <;> (fail_if_success (with_reducible have:=litT_ hb)) <;> (fail_if_success (with_reducible have:=litF_ hb)) <;> (try simp only [HB_] at hb) <;> (try (exfalso;first | omega | (cases hb;done)))) | fail)
  · refine retQ_ok (by rfl) (dH n (B) (P) (W) (off) (left)) (subL_ok ⟨rfl,rfl,rfl,rfl,trivial⟩) ⟨congrArg (AV.int .i64) ?_,?_⟩ <;> simp [hb]
  · rename_i h1
    have h1 : e1 = 0:=by omega
    have hb : s.length ≠ 64:=by omega
    refine retQ_ok (by rfl) (dH n (B) (P) (W) (off) (left)) (subL_ok ⟨rfl,rfl,rfl,rfl,trivial⟩) ⟨congrArg (AV.int .i64) ?_,?_⟩ <;> simp [h1,hb]
  · rename_i h1 h2
    have h1 : e1 = 0:=by omega
    have h2 : s.length = 64:=by omega
    refine retQ_ok (by rfl) (dH n (B) (P) (W) (off2) (left2)) (subL_ok ⟨rfl,rfl,rfl,rfl,trivial⟩) ⟨congrArg (AV.int .i64) ?_,?_⟩ <;> simp [h1,h2,hb]
  · rename_i h1 h2
    have h1 : e1 = 0:=by omega
    have h2 : s.length = 64:=by omega
    have hb : e2 = 0:=by omega
    refine retQ_ok (by rfl) (dH n (B) (mSet P i s) (W) (off2) (left2)) (subL_ok ⟨rfl,rfl,rfl,rfl,trivial⟩) ⟨congrArg (AV.int .i64) ?_,?_⟩ <;> simp [h1,h2,hb]
def rdS (n : Nat) (off : Bool) (B : List Bs) (P : PM) (i : Int) : Bs:=if chk n off i ≠ 0 then [] else match mFind P i with
  | some b=>b
  | none=>B.getD i.toNat []
theorem chk_zero {i : Int} (h : chk n off i = 0) : off = false∧0 ≤ i∧i < n:=by
  unfold chk at h
  split at h
  · cases h
  · rename_i ho
    split at h
    · cases h
    · rename_i hb
      unfold bad at hb
      exact ⟨by simpa using ho,by omega⟩
theorem getD_mem {X : Type} {l : List X} {i : Nat} {d : X} (h : i < l.length) : l.getD i d ∈ l:=by
  rw [List.getD_eq_getElem?_getD,List.getElem?_eq_getElem h];exact List.getElem_mem h
set_option maxRecDepth 10000 in
set_option maxHeartbeats 1000000 in
theorem read_ok (i : Int) (hB : B.length = n) (hB64 : ∀ b ∈ B,b.length = 64) (hP64 : ∀ q ∈ P,q.2.length = 64) : Ok Tryz.prog 47 [] (dH n B P W off left) (.pair (.ptr 0 []) (.pair (.int .i64 i) .nul))
    (fun r h'=>r = .tup (.pair (.str (rdS n off B P i)) (.pair (.int .i64 (chk n off i)) .nul))∧h' = dH n B P W off left):=by
  have c1:=check_ok (n:=n) (B:=B) (P:=P) (W:=W) (off:=off) (left:=left) i
  have hchk : chk n off i = 0→off = false∧0 ≤ i∧i < n:=chk_zero
  unfold rdS
  generalize chk n off i = e1 at *
  by_cases h0 : e1 = 0
  · obtain ⟨_,h1,h2⟩:=hchk h0
    subst h0
    cases hm : mFind P i with
    | some b =>
      have h64 : b.length = 64:=hP64 _ (mFind_mem hm)
      refine Ok.of_vc tt_ok Tryz.func47 rfl rfl (by show 2 ≤ _;decide) 4 (hlt_ok (by rfl)) fun c0=>?_
      repeat' (first | (refine SS_ ?_) | (refine Seq.callo false [] [] (.int .i64 0) (dH n B P W off left) 4 (c1) Tryz.func42 GOk.nil subG.nil (by rfl) (by rfl) rfl rfl rfl rfl rfl (by rfl) rfl (by rfl) (by rfl) (by rfl) (by rfl) VW_ NI_ R_ (noFrL_ok NI_) BK_ ?_) | (refine Seq.val (look2S_ok (K:=KI) (V:=blkA) (l:=P) (k:=i) (u:=b) tt_ok (by rfl) u_pend keyI (z_blk _ rfl) (by rfl) (by rfl) (by rfl) hm) (by rfl) (by rfl) ?_) | (refine Seq.str (b) tt_ok (by rfl) (by rfl) (by rfl) (by rfl) (by rfl) (by (first | exact trivial | exact u8_in _ rfl | exact u32_in _ rfl | ((with_reducible refine AllP.guard ?_);simp only [AllP,inI,fitV,maxK,inK,inbL,inb,List.append,List.cons_append,List.nil_append,true_and,and_true];first | done | omega))) (by rfl) (.inl rfl) (by rfl) rfl (h64) (fun i hi=>by first | exact rfl | simp only [Nat.zero_add]) ?_) | (refine VC.litT (by rfl) LTR_ ?_) | (refine VC.litF (by rfl) LFA_ ?_) | fail)
      exact retQ_ok (by rfl) (dH n B P W off left) (subL_ok ⟨rfl,rfl,rfl,rfl,trivial⟩) ⟨rfl,rfl⟩
    | none =>
      have h64 : (B.getD i.toNat []).length = 64:=hB64 _ (getD_mem (by omega))
      refine Ok.of_vc tt_ok Tryz.func47 rfl rfl (by show 2 ≤ _;decide) 4 (hlt_ok (by rfl)) fun c0=>?_
      repeat' (first | (refine SS_ ?_) | (refine Seq.callo false [] [] (.int .i64 0) (dH n B P W off left) 4 (c1) Tryz.func42 GOk.nil subG.nil (by rfl) (by rfl) rfl rfl rfl rfl rfl (by rfl) rfl (by rfl) (by rfl) (by rfl) (by rfl) VW_ NI_ R_ (noFrL_ok NI_) BK_ ?_) | (refine Seq.val (look2N_ok (K:=KI) (V:=blkA) (l:=P) (k:=i) (z0:=.arr 64 1 (fun _=>.int .u8 0)) tt_ok (by rfl) u_pend keyI (z_blk _ rfl) (by rfl) (by rfl) (by rfl) hm rfl) (by rfl) (by rfl) ?_) | (refine Seq.str (B.getD i.toNat []) tt_ok (by rfl) (by rfl) (by rfl) (by rfl) (by rfl) (by (first | exact trivial | exact u8_in _ rfl | exact u32_in _ rfl | ((with_reducible refine AllP.guard ?_);simp only [AllP,inI,fitV,maxK,inK,inbL,inb,List.append,List.cons_append,List.nil_append,true_and,and_true];first | done | omega))) (by rfl) (.inl rfl) (by rfl) rfl (h64) (fun i hi=>by first | exact rfl | simp only [Nat.zero_add]) ?_) | (refine VC.litF (by rfl) LFA_ ?_) | fail)
      exact retQ_ok (by rfl) (dH n B P W off left) (subL_ok ⟨rfl,rfl,rfl,rfl,trivial⟩) ⟨rfl,rfl⟩
  · refine Ok.of_vc tt_ok Tryz.func47 rfl rfl (by show 2 ≤ _;decide) 4 (hlt_ok (by rfl)) fun c0=>?_
    repeat' (first | (refine SS_ ?_) | (refine Seq.callo false [] [] (.int .i64 e1) (dH n B P W off left) 4 (c1) Tryz.func42 GOk.nil subG.nil (by rfl) (by rfl) rfl rfl rfl rfl rfl (by rfl) rfl (by rfl) (by rfl) (by rfl) (by rfl) VW_ NI_ R_ (noFrL_ok NI_) BK_ ?_) | (refine VC.litT (by rfl) LTR_ ?_) | fail)
    refine retQ_ok (by rfl) (dH n B P W off left) (subL_ok ⟨rfl,rfl,rfl,rfl,trivial⟩) ⟨?_,rfl⟩
    rw [if_pos h0]
theorem tear_same (m : Nat) (x : Bs) : tear m x x = x:=List.take_append_drop m x
theorem set_same (B : List Bs) (i : Nat) : B.set i (B.getD i []) = B:=by
  apply List.ext_getElem?
  intro j
  rw [List.getElem?_set]
  split
  · rename_i e
    subst e
    split
    · rename_i hj;rw [List.getD_eq_getElem?_getD,List.getElem?_eq_getElem hj];rfl
    · rename_i hj;rw [List.getElem?_eq_none (by omega)]
  · rfl
theorem upto_le (p : Int) : upto p ≤ 64:=by unfold upto;omega
theorem tear_get (m : Nat) (x old : Bs) (hx : x.length = 64) (ho : old.length = 64) (hm : m ≤ 64) {j : Nat} (hj : j < 64) : (tear m x old).getD j 0 = if j < m then x.getD j 0 else old.getD j 0:=by
  unfold tear
  rw [List.getD_eq_getElem?_getD]
  by_cases h : j < m
  · rw [if_pos h,List.getElem?_append_left (by rw [List.length_take];omega),List.getElem?_take_of_lt h,List.getD_eq_getElem?_getD]
  · rw [if_neg h,List.getElem?_append_right (by rw [List.length_take];omega),List.getElem?_drop,List.length_take,List.getD_eq_getElem?_getD]
    congr 3;omega
theorem rel_blk {A : Nat→Prop} {σ : Nat→Nat} {b : Bs} {k : Nat→AV} (h : ∀ j,j < 64→k j = .int .u8 ((b.getD j 0).toNat : Nat)) : RelA A σ (blkA b) (.arr 64 1 k) :=
  ⟨k,rfl,fun j hj=>by rw [h j hj];exact rfl⟩
theorem getD_set {X : Type} {l : List X} {i : Nat} {x d : X} (h : i < l.length) : (l.set i x).getD i d = x:=by
  rw [List.getD_eq_getElem?_getD,List.getElem?_set_self h,Option.getD_some]
theorem getD_set_ne {X : Type} {l : List X} {i j : Nat} {x d : X} (h : j ≠ i) : (l.set i x).getD j d = l.getD j d:=by
  rw [List.getD_eq_getElem?_getD,List.getElem?_set_ne (fun e=>h e.symm),List.getD_eq_getElem?_getD]
set_option maxRecDepth 10000 in
theorem lookW_ok {g e h : Asc} {x y : Operand} {d : Option Tmp} {ty : TypeId} {pos : String} {af : Array Edge} {gd : Option (Nat × Bool)} {id : Nat} {i : Int} {q : Bool} (hx : ev g e x = some (.mp id)) (ho : get? h id = some (wornA W)) (hy : ev g e y = some (.int .i64 i)) (hq : isW W i = q) :
    OpOk Tryz.prog ⟨d,.lookup 71 x y false,ty,pos,af,gd⟩ g e h (some (.bool q)) h []:=by
  unfold isW at hq
  cases hm : mFind W i with
  | none =>
    rw [hm] at hq
    have hq : false = q:=hq
    subst hq
    exact lookN_ok (K:=KI) (V:=VB) (z0:=.bool false) tt_ok (by rfl) u_worn keyI (z_bool _ rfl) hx ho hy hm rfl
  | some b =>
    rw [hm] at hq
    have hq : b = q:=hq
    subst hq
    exact lookS_ok (K:=KI) (V:=VB) tt_ok (by rfl) u_worn keyI (z_bool _ rfl) hx ho hy hm
theorem arr_eq {x y : Bs} (hx : x.length = 64) (hy : y.length = 64) : (∀ i,i < 64→((x.getD i 0).toNat : Int) = ((y.getD i 0).toNat : Nat)) ↔ x = y:=by
  constructor
  · intro h
    refine List.ext_getElem (by omega) fun i h1 h2=>?_
    have:=h i (by omega)
    rw [List.getD_eq_getElem?_getD,List.getElem?_eq_getElem h1,List.getD_eq_getElem?_getD,List.getElem?_eq_getElem h2,Option.getD_some,Option.getD_some] at this
    exact UInt8.toNat_inj.1 (by omega)
  · rintro rfl i _;rfl
set_option maxRecDepth 10000 in
set_option maxHeartbeats 1000000 in
theorem settle_ok (a p : Int) {x : Bs} (hi : 0 ≤ a) (hin : a < n) (hB : B.length = n) (hB64 : ∀ b ∈ B,b.length = 64) (hx : mFind P a = some x) (hx64 : x.length = 64) : Ok Tryz.prog 62 [] (dH n B P W off left) (.pair (.ptr 0 []) (.pair (.int .i64 a) (.pair (.int .i64 p) .nul)))
    (fun r h'=>r = .tup .nul∧h' = dH n (if isW W a = true then B else B.set a.toNat (tear (upto p) x (B.getD a.toNat []))) (mDel P a) W off left):=by
  have h64 : (B.getD a.toNat []).length = 64:=hB64 _ (getD_mem (by omega))
  cases hq : isW W a with
  | true =>
    refine Ok.of_vc tt_ok Tryz.func62 rfl rfl (by show 3 ≤ _;decide) 4 (hlt_ok (by rfl)) fun c0=>?_
    repeat' (first | (refine SS_ ?_) | (refine Seq.val (lookS_ok (K:=KI) (V:=blkA) (l:=P) (k:=a) (u:=x) tt_ok (by rfl) u_pend keyI (z_blk _ rfl) (by rfl) (by rfl) (by rfl) hx) (by rfl) (by rfl) ?_) | (refine Seq.eff (delete_ok (K:=KI) (V:=blkA) (l:=P) (k:=a) u_pend keyI (by rfl) (by rfl) (by rfl)) (by rfl) (by rfl) ?_) | (refine VC.drawm (id:=2) [(0,0),(1,1),(2,3),(3,7),(4,0),(5,31),(6,63),(7,127),(8,255),(9,255),(10,767),(11,1791),(12,3839),(13,255),(14,16127),(15,32511),(16,65535),(17,131071)] [] (by rfl) (by kernel_rfl) (by rfl) ?_) | (refine DSeq.val (by rfl) (fastE (by rfl)) (fastH (by rfl)) (lookW_ok (i:=a) (by rfl) (by rfl) (by rfl) hq) (by rfl) (by rfl) ?_) | (refine VC.litF (by rfl) LFA_ ?_) | (refine DD_ ?_) | fail)
    refine retQ_ok (by rfl) (dH n (B) (mDel P a) (W) (off) (left)) (subL_ok ⟨rfl,rfl,rfl,rfl,trivial⟩) ⟨rfl,?_⟩
    rfl
  | false =>
    by_cases hxo : x = B.getD a.toNat []
    · have hne : (false = false ↔ ∀ j,j < 64→((x.getD j 0).toNat : Int) = (((B.getD (0 + a.toNat) []).getD j 0).toNat : Nat)):=by
        rw [Nat.zero_add];exact ⟨fun _=>(arr_eq hx64 h64).2 hxo,fun _=>rfl⟩
      refine Ok.of_vc tt_ok Tryz.func62 rfl rfl (by show 3 ≤ _;decide) 4 (hlt_ok (by rfl)) fun c0=>?_
      repeat' (first | (refine SS_ ?_) | (refine Seq.val (lookS_ok (K:=KI) (V:=blkA) (l:=P) (k:=a) (u:=x) tt_ok (by rfl) u_pend keyI (z_blk _ rfl) (by rfl) (by rfl) (by rfl) hx) (by rfl) (by rfl) ?_) | (refine Seq.eff (delete_ok (K:=KI) (V:=blkA) (l:=P) (k:=a) u_pend keyI (by rfl) (by rfl) (by rfl)) (by rfl) (by rfl) ?_) | (refine VC.drawm (id:=2) [(0,0),(1,1),(2,3),(3,7),(4,0),(5,31),(6,63),(7,127),(8,255),(9,255),(10,767),(11,1791),(12,3839),(13,255),(14,16127),(15,32511),(16,65535),(17,131071)] [] (by rfl) (by kernel_rfl) (by rfl) ?_) | (refine DSeq.val (by rfl) (fastE (by rfl)) (fastH (by rfl)) (lookW_ok (i:=a) (by rfl) (by rfl) (by rfl) hq) (by rfl) (by rfl) ?_) | (refine DSeq.nearr (false) tt_ok (by rfl) (fastE (by rfl)) (fastH (by rfl)) (by rfl) (by rfl) (by rfl) (by kernel_rfl) (by rfl) (by rfl) (by rfl) hne (by rfl) ?_) | (refine VC.litF (by rfl) LFA_ ?_) | (refine DD_ ?_) | fail)
      refine retQ_ok (by rfl) (dH n (B) (mDel P a) (W) (off) (left)) (subL_ok ⟨rfl,rfl,rfl,rfl,trivial⟩) ⟨rfl,?_⟩
      rw [if_neg (by simp),← hxo,tear_same,hxo,set_same]
    · have hne : (true = false ↔ ∀ j,j < 64→((x.getD j 0).toNat : Int) = (((B.getD (0 + a.toNat) []).getD j 0).toNat : Nat)):=by
        rw [Nat.zero_add];exact ⟨(fun e=>by cases e),fun h=>absurd ((arr_eq hx64 h64).1 h) hxo⟩
      refine Ok.of_vc tt_ok Tryz.func62 rfl rfl (by show 3 ≤ _;decide) 4 (hlt_ok (by rfl)) fun c0=>?_
      repeat' (first | (refine SS_ ?_) | (refine Seq.val (lookS_ok (K:=KI) (V:=blkA) (l:=P) (k:=a) (u:=x) tt_ok (by rfl) u_pend keyI (z_blk _ rfl) (by rfl) (by rfl) (by rfl) hx) (by rfl) (by rfl) ?_) | (refine Seq.eff (delete_ok (K:=KI) (V:=blkA) (l:=P) (k:=a) u_pend keyI (by rfl) (by rfl) (by rfl)) (by rfl) (by rfl) ?_) | (refine VC.drawm (id:=2) [(0,0),(1,1),(2,3),(3,7),(4,0),(5,31),(6,63),(7,127),(8,255),(9,255),(10,767),(11,1791),(12,3839),(13,255),(14,16127),(15,32511),(16,65535),(17,131071)] [] (by rfl) (by kernel_rfl) (by rfl) ?_) | (refine DSeq.val (by rfl) (fastE (by rfl)) (fastH (by rfl)) (lookW_ok (i:=a) (by rfl) (by rfl) (by rfl) hq) (by rfl) (by rfl) ?_) | (refine DSeq.nearr (true) tt_ok (by rfl) (fastE (by rfl)) (fastH (by rfl)) (by rfl) (by rfl) (by rfl) (by kernel_rfl) (by rfl) (by rfl) (by rfl) hne (by rfl) ?_) | (refine VC.litT (by rfl) LTR_ ?_) | (refine DD_ ?_) | fail)
      refine VC.drawm (id:=3) [(0,0),(1,1),(2,3),(3,7),(4,0),(5,31),(6,0),(7,64),(8,192),(9,511),(10,0)] [11] (by rfl) (by kernel_rfl) (by rfl) ?_
      refine D_ ?_
      refine DSeq.val (by rfl) (fastE (by rfl)) (fastH (by rfl)) (min_ok (by rfl) (by rfl)) (by rfl) (by rfl) ?_
      refine DSeq.val (by rfl) (fastE (by rfl)) (fastH (by rfl)) (max_ok (by rfl) (by rfl)) (by rfl) (by rfl) ?_
      refine D_ ?_
      refine Seq.ev0 true tt_ok (by rfl) (by (first | exact trivial | exact u8_in _ rfl | exact u32_in _ rfl | ((with_reducible refine AllP.guard ?_);simp only [AllP,inI,fitV,maxK,inK,inbL,inb,List.append,List.cons_append,List.nil_append,true_and,and_true];first | done | omega))) rfl rfl rfl ?_
      refine Seq.conv (s':=⟨[],dH n (B.set a.toNat (tear (upto p) x (B.getD a.toNat []))) (mDel P a) W off left,[],5⟩) (by
        (refine Sim.less [] (by rfl) ?_ ?_ <;> (repeat' (first | (exact EnvLe.nil) | (exact HeapLe.nil) | (with_reducible apply HeapLe.cons) | ((with_reducible refine RelA.int ?_;first | (refine Keep.mk ?_;first | with_reducible rfl | omega | decide) | skip)) | (exact rfl) | (exact ⟨rfl,rfl⟩) | ((with_reducible refine RelA.arr ?_;intro i hi)) | (with_reducible refine RelA.pair ?_ ?_) | (exact NoId.self (by first | ((repeat' (first | exact trivial | exact rfl | refine NoFr.bif ?_ ?_ | refine NoId.bif ?_ ?_ | refine AllFr.bif ?_ ?_ | (intro i hi) | (refine ⟨?_,?_⟩) | (intro e;cases e;done)));done) | fail)) | fail)) <;> (try with_reducible refine Keep.mk ?_))
        by_cases hji : i = a.toNat
        · rw [bif_eq (show i = 0 + a.toNat by omega),hji,getD_set (by omega)]
          refine rel_blk fun q hq=>?_
          rw [tear_get _ _ _ hx64 h64 (upto_le p) hq]
          by_cases hqm : q < upto p
          · rw [if_pos hqm,cpF_in (Nat.zero_le _) (by unfold upto at hqm;simp only [Nat.min_def];split <;> omega),Nat.sub_zero,Nat.zero_add]
          · rw [if_neg hqm,cpF_out (.inr (by unfold upto at hqm;simp only [Nat.min_def];split <;> omega)),Nat.zero_add]
        · rw [bif_ne (show i ≠ 0 + a.toNat by omega),getD_set_ne hji]
          exact NoId.self NI_) ?_
      refine S_ ?_
      refine retQ_ok (by rfl) (dH n (B.set a.toNat (tear (upto p) x (B.getD a.toNat []))) (mDel P a) (W) (off) (left)) (subL_ok ⟨rfl,rfl,rfl,rfl,trivial⟩) ⟨rfl,?_⟩
      rw [if_neg (by simp)]
end Go.Proofs.YtmbldnahcmkpgaaGreatDoor
