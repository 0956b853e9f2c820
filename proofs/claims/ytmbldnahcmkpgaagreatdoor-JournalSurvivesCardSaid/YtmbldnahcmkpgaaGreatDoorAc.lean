/- Disks as abstract values; the small methods. Journals: counts, numbers of few bytes, equality of bytes. -/
import Derived.Test.YtmbldnahcmkpgaaGreatDoorGb
import Derived.Test.YtmbldnahcmkpgaaGreatDoorTy
import Derived.Test.YtmbldnahcmkpgaaGreatDoorAb
import Derived.Test.YtmbldnahcmkpgaaGreatDoorFs
import Derived.Test.YtmbldnahcmkpgaaGreatDoorHb
import Derived.Test.YtmbldnahcmkpgaaGreatDoorGd
set_option linter.unusedSimpArgs false
set_option linter.unusedVariables false
namespace Go.Proofs.YtmbldnahcmkpgaaGreatDoor
open Go.V Go.RowKit Go.L Go.Dk
def KI (n : Int) : AV:=.int .i64 n
def kvI (n : Int) : Value:=.int .i64 n
def blkA (b : Bs) : AV:=.arr 64 1 (fun i=>.int .u8 ((b.getD i 0).toNat : Nat))
def VB (b : Bool) : AV:=.bool b
def pendA (P : PM) : AV:=moL KI blkA (0,[]) P
def wornA (W : WM) : AV:=moL KI VB (0,false) W
abbrev blksA (n : Nat) (B : List Bs) : AV:=.arr n 64 (fun i=>blkA (B.getD i []))
abbrev dskA (n : Nat) (a b c : Nat) (off : Bool) (left : Int) : AV:=.pair (.sl a [] 64 0 n) (.pair (.mp b) (.pair (.mp c) (.pair (.bool off) (.pair (.int .i64 left) .nul))))
abbrev dH (n : Nat) (B : List Bs) (P : PM) (W : WM) (off : Bool) (left : Int) : Asc:=[(0,dskA n 1 2 3 off left),(1,blksA n B),(2,pendA P),(3,wornA W)]
def chk (n : Nat) (off : Bool) (i : Int) : Int:=if off = true then 20 else if bad n i then 1 else 0
def stpE (left : Int) : Int:=if left = 0 then 20 else 0
def stpO (off : Bool) (left : Int) : Bool:=if left = 0 then true else off
def stpL (left : Int) : Int:=if 0 < left then left - 1 else left
def i64B (n : Int) : Prop:=-9223372036854775808 ≤ n∧n ≤ 9223372036854775807
theorem u_int : Tryz.prog.underlying 3 = some (.int .i64):=by kernel_rfl
theorem u_pend : Tryz.prog.underlying 70 = some (.map 3 82):=by kernel_rfl
theorem u_worn : Tryz.prog.underlying 71 = some (.map 3 4):=by kernel_rfl
theorem z_blk : ∀ ti,tget TT 82 = some ti→zB Tryz.prog 82 ti = true:=by
  intro ti h
  cases h
  kernel_rfl
theorem z_bool : ∀ ti,tget TT 4 = some ti→zB Tryz.prog 4 ti = true:=by
  intro ti h
  cases h
  kernel_rfl
theorem keyI : KeyK Tryz.prog 3 KI kvI:=key_int u_int
variable {n : Nat} {B : List Bs} {P : PM} {W : WM} {off : Bool} {left : Int}
theorem check_ok (i : Int) : Ok Tryz.prog 42 [] (dH n B P W off left) (.pair (.ptr 0 []) (.pair (.int .i64 i) .nul)) (fun r h'=>r = .int .i64 (chk n off i)∧h' = dH n B P W off left):=by
  refine Ok.of_vc tt_ok Tryz.func42 rfl rfl (by show 2 ≤ _;decide) 4 (hlt_ok (by rfl)) fun c0=>?_
  repeat' (first | (refine SS_ ?_) | (refine VC.litT (by rfl) LTR_ ?_) | (refine Seq.litC (by rfl) (by rfl) (fun hb=>?_) (fun hb=>?_) <;> (fail_if_success (with_reducible have:=litT_ hb)) <;> (fail_if_success (with_reducible have:=litF_ hb)) <;> (try simp only [HB_] at hb) <;> (try (exfalso;first | omega | (cases hb;done)))) | (refine VC.cond (by rfl) (fun hb=>?_) (fun hb=>?_) <;> (fail_if_success (with_reducible have:=litT_ hb)) <;> (fail_if_success (with_reducible have:=litF_ hb)) <;> (try simp only [HB_] at hb) <;> (try (exfalso;first | omega | (cases hb;done)))) | fail)
  all_goals (refine retQ_ok (by rfl) (dH n B P W off left) (subL_ok ⟨rfl,rfl,rfl,rfl,trivial⟩) ⟨congrArg (AV.int .i64) ?_,rfl⟩;unfold chk bad)
  · rw [if_pos hb]
  · rename_i h1;simp [h1,hb]
  · rename_i h1 h2;simp [h1,hb]
  · rename_i h1 h2;simp [h1];omega
theorem step_ok (hl : i64B left) : Ok Tryz.prog 43 [] (dH n B P W off left) (.pair (.ptr 0 []) .nul) (fun r h'=>r = .int .i64 (stpE left)∧h' = dH n B P W (stpO off left) (stpL left)):=by
  obtain ⟨hl1,hl2⟩:=hl
  refine Ok.of_vc tt_ok Tryz.func43 rfl rfl (by show 1 ≤ _;decide) 4 (hlt_ok (by rfl)) fun c0=>?_
  repeat' (first | (refine SS_ ?_) | (refine VC.cond (by rfl) (fun hb=>?_) (fun hb=>?_) <;> (fail_if_success (with_reducible have:=litT_ hb)) <;> (fail_if_success (with_reducible have:=litF_ hb)) <;> (try simp only [HB_] at hb) <;> (try (exfalso;first | omega | (cases hb;done)))) | fail)
  · refine retQ_ok (by rfl) (dH n B P W true left) (subL_ok ⟨rfl,rfl,rfl,rfl,trivial⟩) ⟨congrArg (AV.int .i64) ?_,?_⟩
    · rw [stpE,if_pos hb]
    · rw [stpO,if_pos hb,stpL,if_neg (by omega)]
  · refine retQ_ok (by rfl) (dH n B P W off (left - 1)) (subL_ok ⟨rfl,rfl,rfl,rfl,trivial⟩) ⟨congrArg (AV.int .i64) ?_,?_⟩
    · rw [stpE,if_neg (by omega)]
    · rw [stpO,if_neg (by omega),stpL,if_pos hb]
  · refine retQ_ok (by rfl) (dH n B P W off left) (subL_ok ⟨rfl,rfl,rfl,rfl,trivial⟩) ⟨congrArg (AV.int .i64) ?_,?_⟩
    · rw [stpE,if_neg (by omega)]
    · rw [stpO,if_neg (by omega),stpL,if_neg hb]
theorem len_ok' : Ok Tryz.prog 46 [] (dH n B P W off left) (.pair (.ptr 0 []) .nul) (fun r h'=>r = .int .i64 n∧h' = dH n B P W off left):=by
  refine Ok.of_vc tt_ok Tryz.func46 rfl rfl (by show 1 ≤ _;decide) 4 (hlt_ok (by rfl)) fun c0=>?_
  repeat' (first | (refine SS_ ?_) | fail)
  exact retQ_ok (by rfl) (dH n B P W off left) (subL_ok ⟨rfl,rfl,rfl,rfl,trivial⟩) ⟨rfl,rfl⟩
theorem trip_ok (m : Int) : Ok Tryz.prog 18 [] (dH n B P W off left) (.pair (.ptr 0 []) (.pair (.int .i64 m) .nul)) (fun r h'=>r = .tup .nul∧h' = dH n B P W off m):=by
  refine Ok.of_vc tt_ok Tryz.func18 rfl rfl (by show 2 ≤ _;decide) 4 (hlt_ok (by rfl)) fun c0=>?_
  repeat' (first | (refine SS_ ?_) | fail)
  exact retQ_ok (by rfl) (dH n B P W off m) (subL_ok ⟨rfl,rfl,rfl,rfl,trivial⟩) ⟨rfl,rfl⟩
set_option maxRecDepth 10000 in
theorem wear_ok (i : Int) : Ok Tryz.prog 30 [] (dH n B P W off left) (.pair (.ptr 0 []) (.pair (.int .i64 i) .nul)) (fun r h'=>r = .int .i64 (if bad n i then 1 else 0)∧h' = dH n B P (if bad n i then W else mSet W i true) off left):=by
  refine Ok.of_vc tt_ok Tryz.func30 rfl rfl (by show 2 ≤ _;decide) 4 (hlt_ok (by rfl)) fun c0=>?_
  repeat' (first | (refine SS_ ?_) | (refine Seq.eff (mapUpdate_ok (K:=KI) (V:=VB) (u:=true) (l:=W) (k:=i) u_worn keyI (by rfl) (by rfl) (by rfl) (by rfl)) (by rfl) (by rfl) ?_) | (refine VC.litT (by rfl) LTR_ ?_) | (refine Seq.litC (by rfl) (by rfl) (fun hb=>?_) (fun hb=>?_) <;> (fail_if_success (with_reducible have:=litT_ hb)) <;> (fail_if_success (with_reducible have:=litF_ hb)) <;> (try simp only [HB_] at hb) <;> (try (exfalso;first | omega | (cases hb;done)))) | (refine VC.cond (by rfl) (fun hb=>?_) (fun hb=>?_) <;> (fail_if_success (with_reducible have:=litT_ hb)) <;> (fail_if_success (with_reducible have:=litF_ hb)) <;> (try simp only [HB_] at hb) <;> (try (exfalso;first | omega | (cases hb;done)))) | fail)
  · refine retQ_ok (by rfl) (dH n B P W off left) (subL_ok ⟨rfl,rfl,rfl,rfl,trivial⟩) ⟨congrArg (AV.int .i64) ?_,?_⟩
    · rw [if_pos (.inl hb)]
    · rw [if_pos (.inl hb)]
  · refine retQ_ok (by rfl) (dH n B P W off left) (subL_ok ⟨rfl,rfl,rfl,rfl,trivial⟩) ⟨congrArg (AV.int .i64) ?_,?_⟩
    · rw [if_pos (.inr hb)]
    · rw [if_pos (.inr hb)]
  · rename_i h1
    refine retQ_ok (by rfl) (dH n B P (mSet W i true) off left) (subL_ok ⟨rfl,rfl,rfl,rfl,trivial⟩) ⟨congrArg (AV.int .i64) ?_,?_⟩
    · rw [if_neg (by unfold bad;omega)]
    · rw [if_neg (by unfold bad;omega)]
end Go.Proofs.YtmbldnahcmkpgaaGreatDoor

namespace Go.Proofs.YtmbldnahcmkpgaaGreatDoor
open Go.V Go.RowKit Go.L Go.Lx Go.Jn Go.Dk
set_option maxRecDepth 10000
set_option maxHeartbeats 4000000
theorem cnt_out {n : Int} (h : n < 0 ∨ 8000 < n) : cnt n = 0:=by unfold cnt;rw [if_pos h]
theorem cnt_in {n : Int} (h0 : 0 ≤ n) (h1 : n ≤ 8000) : ((cnt n : Nat) : Int) = max 1 ((n + 47) / 48):=by
  unfold cnt cntN;rw [if_neg (by omega)];omega
theorem count_ok (n : Int) (hn : I64 n) : Ok Tryz.prog 41 [] [] (.pair (.int .i64 n) .nul) (fun r h'=>r = .int .i64 (cnt n : Nat)∧h' = []):=by
  obtain ⟨n1,n2⟩:=hn
  refine Ok.of_vcC tt_ok Tryz.func41 rfl rfl (by show 1 ≤ _;decide) 0 (hlt_ok (by rfl)) fun c0=>?_
  repeat' (first | (refine SS_ ?_) | (refine Seq.val (max_ok (by rfl) (by rfl)) (by rfl) (by rfl) ?_) | (refine VC.litT (by rfl) LTR_ ?_) | (refine Seq.litC (by rfl) (by rfl) (fun hb=>?_) (fun hb=>?_) <;> (fail_if_success (with_reducible have:=litT_ hb)) <;> (fail_if_success (with_reducible have:=litF_ hb)) <;> (try simp only [HB_] at hb) <;> (try (exfalso;first | omega | (cases hb;done)))) | (refine VC.cond (by rfl) (fun hb=>?_) (fun hb=>?_) <;> (fail_if_success (with_reducible have:=litT_ hb)) <;> (fail_if_success (with_reducible have:=litF_ hb)) <;> (try simp only [HB_] at hb) <;> (try (exfalso;first | omega | (cases hb;done)))) | fail)
  · rw [cnt_out (by omega)]
    (refine retC_mk ([(2,.int .i64 0)]) ([]) 0 (Sim.less [] (by rfl) R_ R_) (retQ_ok (by rfl) ([]) (fun i av h=>h) ⟨?_,?_⟩)) <;> rfl
  · rw [cnt_out (by omega)]
    (refine retC_mk ([(2,.int .i64 0)]) ([]) 0 (Sim.less [] (by rfl) R_ R_) (retQ_ok (by rfl) ([]) (fun i av h=>h) ⟨?_,?_⟩)) <;> rfl
  · rw [cnt_in (by omega) (by omega),show n + 47 = n + 48 - 1 by omega]
    (refine retC_mk ([(2,.int .i64 (max 1 ((n + 48 - 1) / 48)))]) ([]) 0 (Sim.less [] (by rfl) R_ R_) (retQ_ok (by rfl) ([]) (fun i av h=>h) ⟨?_,?_⟩)) <;> rfl
theorem rcount_ok (n : Int) (hn : I64 n) : Ok Tryz.prog 55 [] [] (.pair (.int .i64 n) .nul) (fun r h'=>r = .int .i64 (cnt n : Nat)∧h' = []):=by
  obtain ⟨n1,n2⟩:=hn
  refine Ok.of_vcC tt_ok Tryz.func55 rfl rfl (by show 1 ≤ _;decide) 0 (hlt_ok (by rfl)) fun c0=>?_
  repeat' (first | (refine SS_ ?_) | (refine VC.litT (by rfl) LTR_ ?_) | (refine Seq.litC (by rfl) (by rfl) (fun hb=>?_) (fun hb=>?_) <;> (fail_if_success (with_reducible have:=litT_ hb)) <;> (fail_if_success (with_reducible have:=litF_ hb)) <;> (try simp only [HB_] at hb) <;> (try (exfalso;first | omega | (cases hb;done)))) | (refine VC.cond (by rfl) (fun hb=>?_) (fun hb=>?_) <;> (fail_if_success (with_reducible have:=litT_ hb)) <;> (fail_if_success (with_reducible have:=litF_ hb)) <;> (try simp only [HB_] at hb) <;> (try (exfalso;first | omega | (cases hb;done)))) | fail)
  · rw [cnt_out (by omega)]
    (refine retC_mk ([(2,.int .i64 0)]) ([]) 0 (Sim.less [] (by rfl) R_ R_) (retQ_ok (by rfl) ([]) (fun i av h=>h) ⟨?_,?_⟩)) <;> rfl
  · rw [cnt_out (by omega)]
    (refine retC_mk ([(2,.int .i64 0)]) ([]) 0 (Sim.less [] (by rfl) R_ R_) (retQ_ok (by rfl) ([]) (fun i av h=>h) ⟨?_,?_⟩)) <;> rfl
  · rw [cnt_in (by omega) (by omega),show max 1 ((n + 47) / 48) = 1 by omega]
    (refine retC_mk ([(2,.int .i64 1)]) ([]) 0 (Sim.less [] (by rfl) R_ R_) (retQ_ok (by rfl) ([]) (fun i av h=>h) ⟨?_,?_⟩)) <;> rfl
  · rw [cnt_in (by omega) (by omega),show max 1 ((n + 47) / 48) = (n + 47) / 48 by omega]
    (refine retC_mk ([(2,.int .i64 ((n + 47) / 48))]) ([]) 0 (Sim.less [] (by rfl) R_ R_) (retQ_ok (by rfl) ([]) (fun i av h=>h) ⟨?_,?_⟩)) <;> rfl
def putAt (b : Bs) (o : Nat) (x : Bs) : Bs:=b.take o ++ (x ++ b.drop (o + x.length))
theorem putAt_nil (b : Bs) (o : Nat) : putAt b o [] = b:=by unfold putAt;simp
theorem putAt_len {b x : Bs} {o : Nat} (h : o + x.length ≤ b.length) : (putAt b o x).length = b.length:=by
  unfold putAt;simp only [List.length_append,List.length_take,List.length_drop];omega
theorem putAt_snoc {b x : Bs} {o : Nat} {c : UInt8} (h : o + x.length < b.length) : putAt b o (x ++ [c]) = (putAt b o x).set (o + x.length) c:=by
  unfold putAt
  have h1 : (b.take o).length = o:=by rw [List.length_take];omega
  rw [List.set_append_right _ _ (by omega),h1,Nat.add_sub_cancel_left,List.set_append_right _ _ (Nat.le_refl _),Nat.sub_self]
  congr 1
  rw [List.append_assoc]
  congr 1
  rw [List.length_append,List.length_singleton,List.drop_eq_getElem_cons (i:=o + x.length) (by omega),List.set_cons_zero,List.singleton_append,Nat.add_assoc]
theorem u8_ofNat (n : Nat) : ((UInt8.ofNat n).toNat : Int) = IntKind.u8.wrap (n : Int):=by
  simp only [IntKind.wrap,IntKind.bits,IntKind.signed]
  simp
theorem put_ok (b : Bs) (o m n : Nat) (hb : b.length = 64) (hm : o + m ≤ 64) (hn : n ≤ 1048576) : Ok Tryz.prog 90 [] [(0,blkA b)] (.pair (.sl 0 [] 1 o m) (.pair (.int .i64 (n : Nat)) .nul)) (fun r h'=>r = .tup .nul∧h' = [(0,blkA (putAt b o (small n m)))]):=by
  refine Ok.of_vcC tt_ok Tryz.func90 rfl rfl (by show 2 ≤ _;decide) 1 (hlt_ok (by rfl)) fun c0=>?_
  repeat' (first | (refine SS_ ?_) | fail)
  refine VC.loop (fun k : Nat=>⟨[(7,.int .i64 (k : Nat)),(6,.int .i64 (m : Nat)),(1,.int .i64 ((n / 256 ^ k : Nat) : Int)),(0,.sl 0 [] 1 o m)],[(0,blkA (putAt b o (small n k)))],[],1⟩) (fun k=>k ≤ m) (fun k=>m - k) 0 (by omega) (by
    rw [show small n 0 = [] from rfl,putAt_nil,Nat.pow_zero,Nat.div_one]
    exact (Sim.less [] (by rfl) R_ R_)) fun k hk=>?_
  by_cases hkm : k < m
  · have hle : n / 256 ^ k ≤ 1048576:=Nat.le_trans (Nat.div_le_self _ _) hn
    have hp : putAt b o (small n (k + 1)) = (putAt b o (small n k)).set (o + k) (UInt8.ofNat (n / 256 ^ k)):=by
      rw [small_succ,putAt_snoc (by rw [small_len];omega),small_len]
    have hl : (putAt b o (small n k)).length = 64:=by rw [putAt_len (by rw [small_len];omega),hb]
    have hd : n / 256 ^ (k + 1) = n / 256 ^ k / 256:=by rw [Nat.pow_succ,Nat.div_div_eq_div_mul]
    have hf : ((n / 256 ^ k : Nat) : Int).fdiv (2 ^ min (Int.toNat 8) IntKind.i64.bits) = ((n / 256 ^ k / 256 : Nat) : Int):=by
      rw [Int.fdiv_eq_ediv_of_nonneg _ (by decide)];exact (Int.natCast_ediv _ _).symm
    generalize hb1 : putAt b o (small n k) = b1 at *
    generalize hb2 : putAt b o (small n (k + 1)) = b2 at *
    generalize n / 256 ^ k = q at *
    repeat' (first | (refine SS_ ?_) | (refine VC.litT (by rfl) LTR_ ?_) | fail)
    refine ⟨k + 1,by omega,by omega,?_⟩
    rw [hd,hb2,hp]
    rw [hf]
    (refine Sim.less [] (by rfl) ?_ ?_ <;> (repeat' (first | (exact EnvLe.nil) | (exact HeapLe.nil) | (with_reducible apply EnvLe.cons) | (with_reducible apply HeapLe.cons) | ((with_reducible refine RelA.int ?_;first | (refine Keep.mk ?_;first | with_reducible rfl | omega | decide) | skip)) | (exact rfl) | (exact ⟨rfl,rfl⟩) | ((refine RelA.arr ?_;intro i hi)) | fail)) <;> (try with_reducible refine Keep.mk ?_))
    by_cases h : i = o + k
    · rw [bif_eq (by omega),h,set_get (by omega),u8_ofNat];exact rfl
    · rw [bif_ne (by omega),set_ne h];exact rfl
  · obtain rfl : k = m:=by omega
    repeat' (first | (refine SS_ ?_) | (refine VC.litF (by rfl) LFA_ ?_) | fail)
    (refine retC_mk ([]) ([(0,blkA (putAt b o (small n k)))]) 1 (Sim.less [] (by rfl) R_ R_) (retQ_ok (by rfl) ([(0,blkA (putAt b o (small n k)))]) (fun i av h=>h) ⟨?_,?_⟩)) <;> rfl
theorem u8_mod (q : Nat) : IntKind.u8.wrap ((q : Int) % 256) = ((UInt8.ofNat q).toNat : Nat):=by
  rw [u8_ofNat]
  simp only [IntKind.wrap,IntKind.bits,IntKind.signed]
  simp
theorem rsmall_ok (n m : Nat) (hn : n ≤ 1048576) (hm : m ≤ 8) : Ok Tryz.prog 83 [] [] (.pair (.int .i64 (n : Nat)) (.pair (.int .i64 (m : Nat)) .nul)) (fun r h'=>r = .sl 0 [] 1 0 m∧h' = [(0,.arr m 1 (fun i=>.int .u8 (((small n m).getD i 0).toNat : Nat)))]):=by
  refine Ok.of_vcC tt_ok Tryz.func83 rfl rfl (by show 2 ≤ _;decide) 0 (hlt_ok (by rfl)) fun c0=>?_
  repeat' (first | (refine SS_ ?_) | fail)
  refine VC.conv (Sim.ghost 5 1 (fun _=>.nul) (by rfl) (.inl rfl)) ?_
  refine VC.loop (fun k : Nat=>⟨[(6,.int .i64 (k : Nat)),(5,.sl 0 [] 1 0 k),(1,.int .i64 (m : Nat)),(0,.int .i64 ((n / 256 ^ k : Nat) : Int))],[(0,.arr k 1 (fun i=>.int .u8 (((small n k).getD i 0).toNat : Nat)))],[],1⟩) (fun k=>k ≤ m) (fun k=>m - k) 0 (by omega) (by
    rw [Nat.pow_zero,Nat.div_one]
    (refine Sim.less [] (by rfl) ?_ ?_ <;> (repeat' (first | (exact EnvLe.nil) | (exact HeapLe.nil) | (with_reducible apply EnvLe.cons) | (with_reducible apply HeapLe.cons) | ((with_reducible refine RelA.int ?_;first | (refine Keep.mk ?_;first | with_reducible rfl | omega | decide) | skip)) | (exact rfl) | (exact ⟨rfl,rfl⟩) | ((with_reducible refine RelA.arr ?_;intro i hi)) | fail)) <;> (try with_reducible refine Keep.mk ?_))
    all_goals (exact absurd (by assumption) (Nat.not_lt_zero _))) fun k hk=>?_
  by_cases hkm : k < m
  · have hle : n / 256 ^ k ≤ 1048576:=Nat.le_trans (Nat.div_le_self _ _) hn
    have hd : n / 256 ^ (k + 1) = n / 256 ^ k / 256:=by rw [Nat.pow_succ,Nat.div_div_eq_div_mul]
    have hs:=small_succ n k
    have hlk:=small_len n k
    have hw : ((n / 256 ^ k : Nat) : Int) / 256 = ((n / 256 ^ k / 256 : Nat) : Int):=(Int.natCast_ediv _ _).symm
    generalize hs2 : small n (k + 1) = s2 at *
    generalize small n k = s1 at *
    generalize n / 256 ^ k = q at *
    repeat' (first | (refine SS_ ?_) | (refine VC.litT (by rfl) LTR_ ?_) | fail)
    refine ⟨k + 1,by omega,by omega,?_⟩
    rw [hd,hs2,hs]
    (refine Sim.less [(0,2)] (by rfl) ?_ ?_ <;> (repeat' (first | (exact EnvLe.nil) | (exact HeapLe.nil) | (with_reducible apply EnvLe.cons) | (with_reducible apply HeapLe.cons) | ((with_reducible refine RelA.int ?_;first | (refine Keep.mk ?_;first | with_reducible rfl | omega | decide) | skip)) | (exact rfl) | (exact ⟨rfl,rfl⟩) | ((refine RelA.arr ?_;intro i hi)) | fail)) <;> (try with_reducible refine Keep.mk ?_))
    subst hlk
    exact rel_snocG (G:=fun c : UInt8=>AV.int .u8 (c.toNat : Nat)) (fun e=>NI_) hi (congrArg (AV.int .u8) (u8_mod q))
  · obtain rfl : k = m:=by omega
    repeat' (first | (refine SS_ ?_) | (refine VC.litF (by rfl) LFA_ ?_) | fail)
    (refine retC_mk ([(4,.sl 0 [] 1 0 k)]) ([(0,.arr k 1 (fun i=>.int .u8 (((small n k).getD i 0).toNat : Nat)))]) 1 (Sim.less [] (by rfl) R_ R_) (retQ_ok (by rfl) ([(0,.arr k 1 (fun i=>.int .u8 (((small n k).getD i 0).toNat : Nat)))]) (fun i av h=>h) ⟨?_,?_⟩)) <;> rfl
end Go.Proofs.YtmbldnahcmkpgaaGreatDoor
