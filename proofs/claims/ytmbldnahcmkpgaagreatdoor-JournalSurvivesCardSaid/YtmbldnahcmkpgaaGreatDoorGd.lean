/- hash: the contracts of Begin, Add, Sum, wire.Bytes over abstract values. hash.Of. hash.Mac. dioramaref02: the small functions. dioramaref02: padded, words. dioramaref02.words. -/
import Derived.Test.YtmbldnahcmkpgaaGreatDoorFd
import Derived.Test.YtmbldnahcmkpgaaGreatDoorGc
import Derived.Test.YtmbldnahcmkpgaaGreatDoorTy
set_option linter.unusedSimpArgs false
set_option linter.unusedVariables false
namespace Go.Proofs.YtmbldnahcmkpgaaGreatDoor
open Go.V Go.RowKit Go.U Go.L
def u8A (n : Nat) (l : List UInt8) : AV:=.arr n 1 (fun i=>.int .u8 ((l.getD i 0).toNat : Nat))
def u32A (n : Nat) (l : List UInt32) : AV:=.arr n 1 (fun i=>.int .u32 ((l.getD i 0).toNat : Nat))
def bytesA (fr : Bool) (l : List UInt8) : AV:=.rsl fr l.length 1 (fun i=>.int .u8 ((l.getD i 0).toNat : Nat))
def gK : Asc:=[(2,u32A 64 Sha.kTab)]
theorem rep_u8A {c : Ctx} {n : Nat} {l : List UInt8} (h : l.length = n) {vs : List Value} : Rep c (u8A n l) .C vs ↔ vs = u8s l :=
  rep_arr1 (u8s l) (by simp [u8s,h]) fun i hi ws=>by
    have hi' : i < l.length:=by simpa [u8s] using hi
    simp [u8s,Rep,hi']
theorem rep_u32A {c : Ctx} {n : Nat} {l : List UInt32} (h : l.length = n) {vs : List Value} : Rep c (u32A n l) .C vs ↔ vs = u32s l :=
  rep_arr1 (u32s l) (by simp [u32s,h]) fun i hi ws=>by
    have hi' : i < l.length:=by simpa [u32s] using hi
    simp [u32s,Rep,hi']
theorem rep_arrV {c : Ctx} {n : Nat} {l : List UInt8} (h : l.length = n) {v : Value} : Rep c (u8A n l) .V [v] ↔ v = .agg (u8s l).toArray:=by
  constructor
  · rintro ⟨xs,e,h1,h2⟩
    have:=(rep_u8A (c:=c) h).1 ⟨h1,h2⟩
    rw [← this];simpa using e
  · rintro rfl
    obtain ⟨h1,h2⟩:=(rep_u8A (c:=c) h).2 rfl
    exact ⟨_,rfl,h1,h2⟩
theorem ktab_of {c : Ctx} (hc : CtxOk c) (hg : ∀ x v,get? gK x = some v→Rep c (.rptr false v) .V [.pointer (some ⟨x,0,none⟩)]) : KTab c.w 2:=by
  obtain ⟨b,o,xs,e,hS,_,hcl,hx⟩:=hg 2 _ (by rfl)
  simp only [List.cons.injEq,Value.pointer.injEq,Option.some.injEq,Addr.mk.injEq,and_true] at e
  obtain ⟨rfl,rfl⟩:=e
  have:=(rep_u32A (n:=64) (l:=Sha.kTab) (by rfl)).1 hx
  subst this
  exact ⟨hc.S _ hS,fun j u hu=>by have:=hcl j u hu;rwa [Nat.zero_add] at this⟩
theorem rd_of {c : Ctx} (hc : CtxOk c) {fr : Bool} {l : List UInt8} {v : Value} (h : Rep c (bytesA fr l) .V [v]) : Rd c.w c.w.heap.size v l.length (u8s l):=by
  obtain ⟨a,cap,e,h1,h2,h3⟩:=h
  simp only [List.cons.injEq,and_true] at e
  subst e
  refine ⟨a,cap,rfl,by omega,fun hne=>?_⟩
  rcases h3 with h3 | ⟨b,o,xs,rfl,hS,_,hcl,hx⟩
  · rw [List.length_eq_zero_iff.1 h3] at hne;exact absurd rfl hne
  · have:=(rep_u8A (c:=c) rfl).1 hx
    subst this
    exact ⟨b,o,rfl,hc.S b hS,hcl⟩
theorem sum_ok (fr : Bool) (m : List UInt8) (hl : m.length ≤ 1099511627000) : Ok Tryz.prog 74 gK [] (.pair (bytesA fr m) .nul) (fun r h'=>r = u8A 32 (Sha.sum m)∧h' = []) :=
  Ok.of_calls fun c vs hc hB hg hvs=>by
    obtain ⟨x,y,rfl,h1,h3⟩:=hvs
    have h3 : y = []:=h3
    subst h3
    refine (sum_any _ m c.w _ (rd_of hc h1) (Nat.le_refl _) hl (ktab_of hc hg)).mono fun e w' h=>?_
    obtain ⟨rfl,hbl⟩:=h
    exact ⟨hbl,_,_,rfl,⟨rfl,rfl⟩,(rep_arrV (n:=32) (l:=Sha.sum m) rfl).2 rfl⟩
theorem refRotr_ok (x : UInt32) (k : Nat) (h0 : 0 < k) (hk : k < 32) : Ok Tryz.prog 105 [] [] (.pair (.int .u32 (x.toNat : Nat)) (.pair (.int .i64 (k : Nat)) .nul)) (fun r h'=>r = .int .u32 ((Sha.rotr x (UInt32.ofNat k)).toNat : Nat)∧h' = []) :=
  Ok.of_calls fun c vs hc hB hg hvs=>by
    obtain ⟨x1,y,rfl,h1,x2,y2,rfl,h2,h3⟩:=hvs
    have h1 : [x1] = [_]:=h1
    have h2 : [x2] = [_]:=h2
    have h3 : y2 = []:=h3
    subst h3
    cases h1;cases h2
    refine (rotr_any x k c.w h0 hk).mono fun e w' h=>?_
    obtain ⟨rfl,n,rfl⟩:=h
    exact ⟨below_drewN (Below.refl _ _) n,_,_,rfl,⟨rfl,rfl⟩,rfl⟩
end Go.Proofs.YtmbldnahcmkpgaaGreatDoor
namespace Go.Proofs.YtmbldnahcmkpgaaGreatDoor
open Go.V Go.RowKit Go.U Go.L
theorem gK_ok : GOk gK:=by
  intro x v h
  unfold gK at h
  rw [get?_cons] at h
  split at h
  · cases h;exact ⟨fun i hi=>trivial,fun i hi=>trivial⟩
  · cases h
end Go.Proofs.YtmbldnahcmkpgaaGreatDoor
namespace Go.Proofs.YtmbldnahcmkpgaaGreatDoor
open Go.V Go.RowKit Go.U Go.L
end Go.Proofs.YtmbldnahcmkpgaaGreatDoor
namespace Go.Proofs.YtmbldnahcmkpgaaGreatDoor
open Go.V Go.RowKit Go.U Go.L
end Go.Proofs.YtmbldnahcmkpgaaGreatDoor
namespace Go.Proofs.YtmbldnahcmkpgaaGreatDoor
open Go.V Go.RowKit Go.U Go.L
theorem joinF_snoc {n : Nat} {l : List UInt8} {x : UInt8} {k : Nat→AV} (hl : l.length = n) {i : Nat} (hi : i < n + 1) (hk : k 0 = .int .u8 (x.toNat : Nat)) : joinF n (fun i=>.int .u8 ((l.getD i 0).toNat : Nat)) k i = .int .u8 (((l ++ [x]).getD i 0).toNat : Nat):=by
  by_cases h : i < n
  · rw [joinF_lt h]
    simp [List.getElem?_append_left (show i < l.length by omega)]
  · obtain rfl : i = n:=by omega
    rw [joinF_ge (Nat.le_refl _),Nat.sub_self,hk]
    subst hl
    simp
def pz (m : List UInt8) (k : Nat) : List UInt8:=m ++ 128::List.replicate k 0
theorem pz_length (m : List UInt8) (k : Nat) : (pz m k).length = m.length + 1 + k:=by simp [pz];omega
theorem pz_succ (m : List UInt8) (k : Nat) : pz m k ++ [0] = pz m (k + 1):=by simp [pz,List.replicate_succ']
def pb (m : List UInt8) (k : Nat) : List UInt8:=pz m (Sha.zeros m.length) ++ (Sha.be64 (8 * m.length)).take k
theorem pb_length (m : List UInt8) (k : Nat) (h : k ≤ 8) : (pb m k).length = m.length + 1 + Sha.zeros m.length + k:=by simp [pb,pz_length,Sha.be64];omega
theorem pb_succ (m : List UInt8) (j : Nat) (h : j < 8) : pb m j ++ [UInt8.ofNat (8 * m.length / 2 ^ (56 - 8 * j))] = pb m (j + 1):=by
  unfold pb
  rw [be64_take _ _ h,List.append_assoc]
theorem pb_end (m : List UInt8) : pb m 8 = Sha.padded m:=by
  unfold pb pz Sha.padded Sha.pad
  rw [List.take_of_length_le (by simp [Sha.be64])]
  simp
theorem fdiv_pow (N q : Nat) : ((N : Nat) : Int).fdiv (2 ^ q) = ((N / 2 ^ q : Nat) : Int):=by
  rw [Int.fdiv_eq_ediv_of_nonneg _ (by exact_mod_cast Nat.zero_le _)]
  push_cast
  rfl
theorem wrap8_nat (x : Nat) : IntKind.u8.wrap (x : Int) = (((UInt8.ofNat x).toNat : Nat) : Int):=by
  have h : IntKind.u8.wrap (x : Int) = (x : Int) % 256:=by simp [IntKind.wrap,IntKind.signed,IntKind.bits]
  rw [h,UInt8.toNat_ofNat']
  omega
set_option maxRecDepth 10000 in
theorem padded_ok (m : List UInt8) (hl : m.length ≤ 1000000000000) : Ok Tryz.prog 103 [] [] (.pair (bytesA false m) .nul) (fun r h'=>r = .sl 0 [] 1 0 (Sha.padded m).length∧h' = [(0,u8A (Sha.padded m).length (Sha.padded m))]):=by
  refine Ok.of_vc tt_ok Tryz.func103 rfl rfl (by show 1 ≤ _;decide) 0 (fun i av h=>by cases h) fun c0=>?_
  have hz : Sha.zeros m.length ≤ 63:=by unfold Sha.zeros;omega
  refine S_ ?_
  refine VC.loop (fun k=>⟨[(3,.sl 0 [] 1 0 (m.length + 1 + k)),(0,bytesA false m)],[(0,u8A (m.length + 1 + k) (pz m k))],[],1⟩) (fun k=>k ≤ Sha.zeros m.length) (fun k=>Sha.zeros m.length - k) 0 (by omega) ?_ fun k hk=>?_
  · (refine Sim.less [(0,2)] (by rfl) ?_ ?_ <;> (repeat' (first | (exact EnvLe.nil) | (exact HeapLe.nil) | (with_reducible apply EnvLe.cons) | (with_reducible apply HeapLe.cons) | ((with_reducible refine RelA.int ?_;first | (refine Keep.mk ?_;first | with_reducible rfl | omega | decide) | skip)) | (exact rfl) | (exact ⟨rfl,rfl⟩) | ((refine RelA.rsl ?_;intro i hi)) | ((refine RelA.arr ?_;intro i hi)) | fail)) <;> (try with_reducible refine Keep.mk ?_))
    exact joinF_snoc (n:=m.length) rfl hi rfl
  refine S_ ?_
  refine VC.cond (by rfl) (fun hb=>?_) (fun hb=>?_) <;> (try simp only [decide_eq_true_eq,decide_eq_false_iff_not,Bool.not_eq_true',Bool.not_eq_false'] at hb) <;> (try (exfalso;omega))
  · refine S_ ?_
    have hk2 : k + 1 ≤ Sha.zeros m.length:=by unfold Sha.zeros at hk ⊢;omega
    refine ⟨k + 1,hk2,by omega,?_⟩
    (refine Sim.less [(0,2)] (by rfl) ?_ ?_ <;> (repeat' (first | (exact EnvLe.nil) | (exact HeapLe.nil) | (with_reducible apply EnvLe.cons) | (with_reducible apply HeapLe.cons) | ((with_reducible refine RelA.int ?_;first | (refine Keep.mk ?_;first | with_reducible rfl | omega | decide) | skip)) | (exact rfl) | (exact ⟨rfl,rfl⟩) | ((refine RelA.rsl ?_;intro i hi)) | ((refine RelA.arr ?_;intro i hi)) | fail)) <;> (try with_reducible refine Keep.mk ?_))
    rw [← pz_succ]
    exact joinF_snoc (pz_length m k) hi rfl
  · refine S_ ?_
    have hk2 : k = Sha.zeros m.length:=by unfold Sha.zeros at hk ⊢;omega
    subst hk2
    have hw : IntKind.u64.wrap (8 * (m.length : Int)) = ((8 * m.length : Nat) : Int):=by simp [IntKind.wrap,IntKind.signed,IntKind.bits];omega
    refine VC.loop (fun j=>⟨[(5,.int .i64 (j : Nat)),(4,.int .u64 ((8 * m.length : Nat) : Int)),(3,.sl 0 [] 1 0 (m.length + 1 + Sha.zeros m.length + j)),(0,bytesA false m)],[(0,u8A (m.length + 1 + Sha.zeros m.length + j) (pb m j))],[],1⟩) (fun j=>j ≤ 8) (fun j=>8 - j) 0 (by omega) ?_ fun j hj=>?_
    · (refine Sim.less [] (by rfl) ?_ ?_ <;> (repeat' (first | (exact EnvLe.nil) | (exact HeapLe.nil) | (with_reducible apply EnvLe.cons) | (with_reducible apply HeapLe.cons) | ((with_reducible refine RelA.int ?_;first | (refine Keep.mk ?_;first | with_reducible rfl | omega | decide) | skip)) | (exact rfl) | (exact ⟨rfl,rfl⟩) | ((refine RelA.rsl ?_;intro i hi)) | ((refine RelA.arr ?_;intro i hi)) | fail)) <;> (try with_reducible refine Keep.mk ?_))
      simp only [pb,List.take_zero,List.append_nil]
    refine S_ ?_
    refine VC.cond (by rfl) (fun hb=>?_) (fun hb=>?_) <;> (try simp only [decide_eq_true_eq,decide_eq_false_iff_not,Bool.not_eq_true',Bool.not_eq_false'] at hb) <;> (try (exfalso;omega))
    · refine S_ ?_
      refine ⟨j + 1,by omega,by omega,?_⟩
      (refine Sim.less [(0,2)] (by rfl) ?_ ?_ <;> (repeat' (first | (exact EnvLe.nil) | (exact HeapLe.nil) | (with_reducible apply EnvLe.cons) | (with_reducible apply HeapLe.cons) | ((with_reducible refine RelA.int ?_;first | (refine Keep.mk ?_;first | with_reducible rfl | omega | decide) | skip)) | (exact rfl) | (exact ⟨rfl,rfl⟩) | ((refine RelA.rsl ?_;intro i hi)) | ((refine RelA.arr ?_;intro i hi)) | fail)) <;> (try with_reducible refine Keep.mk ?_))
      rw [← pb_succ _ _ (by omega)]
      refine joinF_snoc (pb_length m j hj) hi ?_
      refine congrArg (AV.int .u8) ?_
      rw [show min (56 - 8 * (j : Int)).toNat IntKind.u64.bits = 56 - 8 * j by simp [IntKind.bits];omega,fdiv_pow,wrap8_nat]
    · refine S_ ?_
      obtain rfl : j = 8:=by omega
      have hL : m.length + 1 + Sha.zeros m.length + 8 = (Sha.padded m).length:=by rw [← pb_end,pb_length _ _ (by omega)]
      rw [pb_end,hL]
      exact retQ_ok (by rfl) [(0,u8A (Sha.padded m).length (Sha.padded m))] (fun _ _ h=>h) ⟨rfl,rfl⟩
end Go.Proofs.YtmbldnahcmkpgaaGreatDoor
namespace Go.Proofs.YtmbldnahcmkpgaaGreatDoor
open Go.V Go.RowKit Go.U Go.L
theorem wrap32 (n : Int) : IntKind.u32.wrap n = n % 4294967296:=by simp [IntKind.wrap,IntKind.signed,IntKind.bits]
theorem byteW_cast (x : UInt8) : ((x.toNat : Nat) : Int) = ((Sha.byteW x).toNat : Nat):=by simp [Sha.byteW]
theorem be_fold (x0 x1 x2 x3 : UInt8) : bits BinOp.or IntKind.u32 (bits BinOp.or IntKind.u32 (bits BinOp.or IntKind.u32 (IntKind.u32.wrap (((x0.toNat : Nat) : Int) * 2 ^ min (Int.toNat 24) IntKind.u32.bits)) (IntKind.u32.wrap (((x1.toNat : Nat) : Int) * 2 ^ min (Int.toNat 16) IntKind.u32.bits))) (IntKind.u32.wrap (((x2.toNat : Nat) : Int) * 2 ^ min (Int.toNat 8) IntKind.u32.bits))) ((x3.toNat : Nat) : Int) = ((Sha.byteW x0 <<< 24 ||| Sha.byteW x1 <<< 16 ||| Sha.byteW x2 <<< 8 ||| Sha.byteW x3).toNat : Nat):=by
  rw [byteW_cast x0,byteW_cast x1,byteW_cast x2,byteW_cast x3]
  generalize Sha.byteW x0 = y0
  generalize Sha.byteW x1 = y1
  generalize Sha.byteW x2 = y2
  generalize Sha.byteW x3 = y3
  have h24:=shl32 y0 24 (by omega)
  have h16:=shl32 y1 16 (by omega)
  have h8:=shl32 y2 8 (by omega)
  rw [wrap32,wrap32,wrap32]
  rw [show min (Int.toNat 24) IntKind.u32.bits = 24 from rfl,show min (Int.toNat 16) IntKind.u32.bits = 16 from rfl,show min (Int.toNat 8) IntKind.u32.bits = 8 from rfl,h24,h16,h8,or32,or32,or32]
  rfl
theorem set32 {n t : Nat} {l : List UInt32} {x : UInt32} {a : AV} (hl : l.length = t) (ha : a = .int .u32 (x.toNat : Nat)) (i : Nat) : (bif Nat.beq i t then a else .int .u32 ((l.getD i 0).toNat : Nat)) = .int .u32 (((l ++ [x]).getD i 0).toNat : Nat):=by
  subst ha
  by_cases h : i = t
  · rw [bif_eq h]
    subst h;subst hl
    simp
  · rw [bif_ne h]
    rcases Nat.lt_or_ge i t with h2 | h2
    · simp [List.getElem?_append_left (show i < l.length by omega)]
    · rw [List.getD_eq_getElem?_getD,List.getD_eq_getElem?_getD,List.getElem?_eq_none (by omega),List.getElem?_eq_none (by simp;omega)]
theorem next_fold (x p y q : UInt32) : IntKind.u32.wrap (IntKind.u32.wrap (IntKind.u32.wrap (((x.toNat : Nat) : Int) + bits BinOp.xor IntKind.u32 (bits BinOp.xor IntKind.u32 ((Sha.rotr p (UInt32.ofNat 7)).toNat : Nat) ((Sha.rotr p (UInt32.ofNat 18)).toNat : Nat)) (((p.toNat : Nat) : Int).fdiv (2 ^ min (Int.toNat 3) IntKind.u32.bits))) + ((y.toNat : Nat) : Int)) +
    bits BinOp.xor IntKind.u32 (bits BinOp.xor IntKind.u32 ((Sha.rotr q (UInt32.ofNat 17)).toNat : Nat) ((Sha.rotr q (UInt32.ofNat 19)).toNat : Nat)) (((q.toNat : Nat) : Int).fdiv (2 ^ min (Int.toNat 10) IntKind.u32.bits))) = ((x + Sha.sg0 p + y + Sha.sg1 q).toNat : Nat):=by
  have h3:=shr32 p 3 (by omega)
  have h10:=shr32 q 10 (by omega)
  rw [show min (Int.toNat 3) IntKind.u32.bits = 3 from rfl,show min (Int.toNat 10) IntKind.u32.bits = 10 from rfl]
  rw [Int.fdiv_eq_ediv_of_nonneg _ (by exact Int.pow_nonneg (by omega)),Int.fdiv_eq_ediv_of_nonneg _ (by exact Int.pow_nonneg (by omega))]
  rw [h3,h10,xor32,xor32,xor32,xor32,wrap32,wrap32,wrap32,add32,add32,add32]
  rfl
theorem sched_high (b : List UInt8) (t : Nat) (h : 16 ≤ t) : Sha.sched b (t + 1) = Sha.sched b t ++ [(Sha.sched b t).getD (t - 16) 0 + Sha.sg0 ((Sha.sched b t).getD (t - 15) 0) + (Sha.sched b t).getD (t - 7) 0 + Sha.sg1 ((Sha.sched b t).getD (t - 2) 0)]:=by
  show Sha.sched b t ++ [Sha.nextW b (Sha.sched b t)] = _
  unfold Sha.nextW
  rw [Sha.sched_length,if_neg (by omega)]
set_option maxRecDepth 20000 in
theorem words_ok (fr : Bool) (b : List UInt8) (hb64 : b.length = 64) : Ok Tryz.prog 104 [] [] (.pair (bytesA fr b) .nul) (fun r h'=>r = u32A 64 (Sha.sched b 64)∧h' = []):=by
  refine Ok.of_vc tt_ok Tryz.func104 rfl rfl (by show 1 ≤ _;decide) 0 (fun i av h=>by cases h) fun c0=>?_
  refine S_ ?_
  refine VC.loop (fun t=>⟨[(4,.int .i64 (t : Nat)),(3,.ptr 1 []),(2,.ptr 0 []),(0,bytesA fr b)],[(1,u32A 64 (Sha.sched b t)),(0,u32A 64 [])],[],2⟩) (fun t=>t ≤ 16) (fun t=>16 - t) 0 (by omega) (Sim.less [] (by rfl) R_ R_) fun t ht=>?_
  refine S_ ?_
  refine VC.cond (by rfl) (fun hb=>?_) (fun hb=>?_) <;> (try simp only [decide_eq_true_eq,decide_eq_false_iff_not,Bool.not_eq_true',Bool.not_eq_false'] at hb) <;> (try (exfalso;omega))
  · refine S_ ?_
    refine VC.draw (mkP [(0,0),(1,0),(2,0),(3,4),(4,14),(5,30),(6,62),(7,126),(8,0),(9,0),(10,512),(11,1536),(12,3840),(13,7936),(14,16128),(15,32512),(16,65534),(17,0),(18,0),(19,262144),(20,786432),(21,1966080),(22,4063232),(23,8257536),(24,16646144),(25,33554430),(26,0),(27,0),(28,134217728),(29,402653184),(30,1006632960),(31,2080374784),(32,4227858432),(33,8589934590),(34,17179869183)]) [35] (by rfl) (by kernel_rfl) (by rfl) (by rfl) ?_
    refine D_ ?_
    refine S_ ?_
    refine ⟨t + 1,by omega,by omega,?_⟩
    (refine Sim.less [] (by rfl) ?_ ?_ <;> (repeat' (first | (exact EnvLe.nil) | (exact HeapLe.nil) | (with_reducible apply EnvLe.cons) | (with_reducible apply HeapLe.cons) | ((with_reducible refine RelA.int ?_;first | (refine Keep.mk ?_;first | with_reducible rfl | omega | decide) | skip)) | (exact rfl) | (exact ⟨rfl,rfl⟩) | ((refine RelA.rsl ?_;intro i hi)) | ((refine RelA.arr ?_;intro i hi)) | fail)) <;> (try with_reducible refine Keep.mk ?_))
    rw [← sched_low b t (by omega)]
    refine set32 (n:=64) (Sha.sched_length b t) (congrArg (AV.int .u32) ?_) i
    rw [show (4 * (t : Int)).toNat = 4 * t by omega,show (4 * (t : Int) + 1).toNat = 4 * t + 1 by omega,show (4 * (t : Int) + 2).toNat = 4 * t + 2 by omega,show (4 * (t : Int) + 3).toNat = 4 * t + 3 by omega]
    exact be_fold _ _ _ _
  · refine S_ ?_
    obtain rfl : t = 16:=by omega
    refine VC.loop (fun t=>⟨[(5,.int .i64 (t : Nat)),(3,.ptr 1 []),(2,.ptr 0 []),(0,bytesA fr b)],[(1,u32A 64 (Sha.sched b t)),(0,u32A 64 [])],[],2⟩) (fun t=>16 ≤ t∧t ≤ 64) (fun t=>64 - t) 16 (by omega) (Sim.less [] (by rfl) R_ R_) fun t ht=>?_
    obtain ⟨ht1,ht2⟩:=ht
    refine S_ ?_
    refine VC.cond (by rfl) (fun hb=>?_) (fun hb=>?_) <;> (try simp only [decide_eq_true_eq,decide_eq_false_iff_not,Bool.not_eq_true',Bool.not_eq_false'] at hb) <;> (try (exfalso;omega))
    · refine S_ ?_
      refine VC.draw (mkP [(0,0),(1,1),(2,3),(3,7),(4,15),(5,0),(6,32),(7,96),(8,224),(9,511),(10,1023),(11,0),(12,2048),(13,6144),(14,14336),(15,30720),(16,65535),(17,131071)]) [] (by rfl) (by kernel_rfl) (by rfl) (by rfl) ?_
      refine D_ ?_
      refine DSeq.callp false (refRotr_ok ((Sha.sched b t).getD ((t : Int) - 15).toNat 0) 7 (by omega) (by omega)) Tryz.func105 GOk.nil subG.nil (by rfl) (fastE (by rfl)) (fastH (by rfl)) (by rfl) (by rfl) rfl rfl rfl rfl rfl (by rfl) (by rfl) ?_ ?_ trivial (fun e=>by cases e) ?_
      · repeat' (first | exact View.rel ⟨rfl,rfl⟩ | (refine View.sln (by rfl) (by rfl) (by (first | exact trivial | exact u8_in _ rfl | exact u32_in _ rfl | ((with_reducible refine AllP.guard ?_);simp only [AllP,inI,fitV,maxK,inK,inbL,inb,List.append,List.cons_append,List.nil_append,true_and,and_true];first | done | omega))) ?_ ⟨rfl,rfl⟩ ?_ ?_) | exact View.nil | exact View.emp | refine View.pair ?_ ?_ | refine View.fn ?_ ?_ | refine View.ptr (by rfl) (by rfl) (by (first | exact trivial | exact u8_in _ rfl | exact u32_in _ rfl | ((with_reducible refine AllP.guard ?_);simp only [AllP,inI,fitV,maxK,inK,inbL,inb,List.append,List.cons_append,List.nil_append,true_and,and_true];first | done | omega))) (by rfl) ⟨rfl,rfl⟩ ?_ | exact View.rel (NoId.self (by first | ((repeat' (first | exact trivial | exact rfl | refine NoFr.bif ?_ ?_ | refine NoId.bif ?_ ?_ | refine AllFr.bif ?_ ?_ | (intro i hi) | (refine ⟨?_,?_⟩) | (intro e;cases e;done)));done) | fail)) | (exact NoId.self (by first | ((repeat' (first | exact trivial | exact rfl | refine NoFr.bif ?_ ?_ | refine NoId.bif ?_ ?_ | refine AllFr.bif ?_ ?_ | (intro i hi) | (refine ⟨?_,?_⟩) | (intro e;cases e;done)));done) | fail)) | exact ⟨rfl,rfl⟩ | (refine View.rel ?_;repeat' (first | exact EnvLe.nil | exact HeapLe.nil | with_reducible apply EnvLe.cons | with_reducible apply HeapLe.cons | (with_reducible refine RelA.int ?_;first | (refine Keep.mk ?_;first | with_reducible rfl | omega | decide) | skip) | exact rfl | exact ⟨rfl,rfl⟩ | (with_reducible refine RelA.rsl ?_;intro i hi) | (with_reducible refine RelA.arr ?_;intro i hi) | with_reducible refine RelA.pair ?_ ?_ | with_reducible refine RelA.rptr ?_ | (with_reducible refine RelA.rslw ?_;intro i hi) | (refine RelA.rsl ?_;intro i hi) | (refine RelA.rslw ?_;intro i hi) | (refine RelA.arr ?_;intro i hi) | refine RelA.pair ?_ ?_ | refine RelA.tup ?_ | ((first | refine RelA.rslL (by first | rfl | ((try simp only [List.length_take,List.length_drop,List.length_append,List.length_cons,List.length_nil,List.length_map,List.length_range]);omega)) ?_ | refine RelA.rslT (by first | rfl | ((try simp only [List.length_take,List.length_drop,List.length_append,List.length_cons,List.length_nil,List.length_map,List.length_range]);omega)) ?_ | refine RelA.arrL (by first | rfl | ((try simp only [List.length_take,List.length_drop,List.length_append,List.length_cons,List.length_nil,List.length_map,List.length_range]);omega)) ?_);intro i hi;(try simp only [List.length_take,List.length_drop] at hi);(try simp (disch:=omega) only [getD_take,getD_drop,Nat.zero_add,Int.toNat_natCast])) | exact RelA.bif_int | refine RelA.fn ?_ ?_ | exact NoId.self (by first | ((repeat' (first | exact trivial | exact rfl | refine NoFr.bif ?_ ?_ | refine NoId.bif ?_ ?_ | refine AllFr.bif ?_ ?_ | (intro i hi) | (refine ⟨?_,?_⟩) | (intro e;cases e;done)));done) | fail))) <;> (try with_reducible refine Keep.mk ?_) | exact rfl | omega | (intro i hi;(try rw [Nat.zero_add]);first | exact NoId.self (by first | ((repeat' (first | exact trivial | exact rfl | refine NoFr.bif ?_ ?_ | refine NoId.bif ?_ ?_ | refine AllFr.bif ?_ ?_ | (intro i hi) | (refine ⟨?_,?_⟩) | (intro e;cases e;done)));done) | fail) | exact rfl | (obtain rfl:=cs1_ hi;exact rfl) | (rcases cs2_ hi with rfl | rfl <;> exact rfl) | (rcases cs3_ hi with rfl | rfl | rfl <;> exact rfl) | (rcases cs4_ hi with rfl | rfl | rfl | rfl <;> exact rfl)))
      · repeat' (first | exact trivial | exact rfl | refine NoFr.bif ?_ ?_ | refine NoId.bif ?_ ?_ | refine AllFr.bif ?_ ?_ | (intro i hi) | (refine ⟨?_,?_⟩) | (intro e;cases e;done))
      refine D_ ?_
      refine DSeq.callp false (refRotr_ok ((Sha.sched b t).getD ((t : Int) - 15).toNat 0) 18 (by omega) (by omega)) Tryz.func105 GOk.nil subG.nil (by rfl) (fastE (by rfl)) (fastH (by rfl)) (by rfl) (by rfl) rfl rfl rfl rfl rfl (by rfl) (by rfl) ?_ ?_ trivial (fun e=>by cases e) ?_
      · repeat' (first | exact View.rel ⟨rfl,rfl⟩ | (refine View.sln (by rfl) (by rfl) (by (first | exact trivial | exact u8_in _ rfl | exact u32_in _ rfl | ((with_reducible refine AllP.guard ?_);simp only [AllP,inI,fitV,maxK,inK,inbL,inb,List.append,List.cons_append,List.nil_append,true_and,and_true];first | done | omega))) ?_ ⟨rfl,rfl⟩ ?_ ?_) | exact View.nil | exact View.emp | refine View.pair ?_ ?_ | refine View.fn ?_ ?_ | refine View.ptr (by rfl) (by rfl) (by (first | exact trivial | exact u8_in _ rfl | exact u32_in _ rfl | ((with_reducible refine AllP.guard ?_);simp only [AllP,inI,fitV,maxK,inK,inbL,inb,List.append,List.cons_append,List.nil_append,true_and,and_true];first | done | omega))) (by rfl) ⟨rfl,rfl⟩ ?_ | exact View.rel (NoId.self (by first | ((repeat' (first | exact trivial | exact rfl | refine NoFr.bif ?_ ?_ | refine NoId.bif ?_ ?_ | refine AllFr.bif ?_ ?_ | (intro i hi) | (refine ⟨?_,?_⟩) | (intro e;cases e;done)));done) | fail)) | (exact NoId.self (by first | ((repeat' (first | exact trivial | exact rfl | refine NoFr.bif ?_ ?_ | refine NoId.bif ?_ ?_ | refine AllFr.bif ?_ ?_ | (intro i hi) | (refine ⟨?_,?_⟩) | (intro e;cases e;done)));done) | fail)) | exact ⟨rfl,rfl⟩ | (refine View.rel ?_;repeat' (first | exact EnvLe.nil | exact HeapLe.nil | with_reducible apply EnvLe.cons | with_reducible apply HeapLe.cons | (with_reducible refine RelA.int ?_;first | (refine Keep.mk ?_;first | with_reducible rfl | omega | decide) | skip) | exact rfl | exact ⟨rfl,rfl⟩ | (with_reducible refine RelA.rsl ?_;intro i hi) | (with_reducible refine RelA.arr ?_;intro i hi) | with_reducible refine RelA.pair ?_ ?_ | with_reducible refine RelA.rptr ?_ | (with_reducible refine RelA.rslw ?_;intro i hi) | (refine RelA.rsl ?_;intro i hi) | (refine RelA.rslw ?_;intro i hi) | (refine RelA.arr ?_;intro i hi) | refine RelA.pair ?_ ?_ | refine RelA.tup ?_ | ((first | refine RelA.rslL (by first | rfl | ((try simp only [List.length_take,List.length_drop,List.length_append,List.length_cons,List.length_nil,List.length_map,List.length_range]);omega)) ?_ | refine RelA.rslT (by first | rfl | ((try simp only [List.length_take,List.length_drop,List.length_append,List.length_cons,List.length_nil,List.length_map,List.length_range]);omega)) ?_ | refine RelA.arrL (by first | rfl | ((try simp only [List.length_take,List.length_drop,List.length_append,List.length_cons,List.length_nil,List.length_map,List.length_range]);omega)) ?_);intro i hi;(try simp only [List.length_take,List.length_drop] at hi);(try simp (disch:=omega) only [getD_take,getD_drop,Nat.zero_add,Int.toNat_natCast])) | exact RelA.bif_int | refine RelA.fn ?_ ?_ | exact NoId.self (by first | ((repeat' (first | exact trivial | exact rfl | refine NoFr.bif ?_ ?_ | refine NoId.bif ?_ ?_ | refine AllFr.bif ?_ ?_ | (intro i hi) | (refine ⟨?_,?_⟩) | (intro e;cases e;done)));done) | fail))) <;> (try with_reducible refine Keep.mk ?_) | exact rfl | omega | (intro i hi;(try rw [Nat.zero_add]);first | exact NoId.self (by first | ((repeat' (first | exact trivial | exact rfl | refine NoFr.bif ?_ ?_ | refine NoId.bif ?_ ?_ | refine AllFr.bif ?_ ?_ | (intro i hi) | (refine ⟨?_,?_⟩) | (intro e;cases e;done)));done) | fail) | exact rfl | (obtain rfl:=cs1_ hi;exact rfl) | (rcases cs2_ hi with rfl | rfl <;> exact rfl) | (rcases cs3_ hi with rfl | rfl | rfl <;> exact rfl) | (rcases cs4_ hi with rfl | rfl | rfl | rfl <;> exact rfl)))
      · repeat' (first | exact trivial | exact rfl | refine NoFr.bif ?_ ?_ | refine NoId.bif ?_ ?_ | refine AllFr.bif ?_ ?_ | (intro i hi) | (refine ⟨?_,?_⟩) | (intro e;cases e;done))
      refine D_ ?_
      refine S_ ?_
      refine VC.draw (mkP [(0,0),(1,1),(2,3),(3,7),(4,15),(5,0),(6,32),(7,96),(8,224),(9,511),(10,1023),(11,0),(12,2048),(13,6144),(14,14336),(15,30720),(16,65535),(17,131071)]) [] (by rfl) (by kernel_rfl) (by rfl) (by rfl) ?_
      refine D_ ?_
      refine DSeq.callp false (refRotr_ok ((Sha.sched b t).getD ((t : Int) - 2).toNat 0) 17 (by omega) (by omega)) Tryz.func105 GOk.nil subG.nil (by rfl) (fastE (by rfl)) (fastH (by rfl)) (by rfl) (by rfl) rfl rfl rfl rfl rfl (by rfl) (by rfl) ?_ ?_ trivial (fun e=>by cases e) ?_
      · repeat' (first | exact View.rel ⟨rfl,rfl⟩ | (refine View.sln (by rfl) (by rfl) (by (first | exact trivial | exact u8_in _ rfl | exact u32_in _ rfl | ((with_reducible refine AllP.guard ?_);simp only [AllP,inI,fitV,maxK,inK,inbL,inb,List.append,List.cons_append,List.nil_append,true_and,and_true];first | done | omega))) ?_ ⟨rfl,rfl⟩ ?_ ?_) | exact View.nil | exact View.emp | refine View.pair ?_ ?_ | refine View.fn ?_ ?_ | refine View.ptr (by rfl) (by rfl) (by (first | exact trivial | exact u8_in _ rfl | exact u32_in _ rfl | ((with_reducible refine AllP.guard ?_);simp only [AllP,inI,fitV,maxK,inK,inbL,inb,List.append,List.cons_append,List.nil_append,true_and,and_true];first | done | omega))) (by rfl) ⟨rfl,rfl⟩ ?_ | exact View.rel (NoId.self (by first | ((repeat' (first | exact trivial | exact rfl | refine NoFr.bif ?_ ?_ | refine NoId.bif ?_ ?_ | refine AllFr.bif ?_ ?_ | (intro i hi) | (refine ⟨?_,?_⟩) | (intro e;cases e;done)));done) | fail)) | (exact NoId.self (by first | ((repeat' (first | exact trivial | exact rfl | refine NoFr.bif ?_ ?_ | refine NoId.bif ?_ ?_ | refine AllFr.bif ?_ ?_ | (intro i hi) | (refine ⟨?_,?_⟩) | (intro e;cases e;done)));done) | fail)) | exact ⟨rfl,rfl⟩ | (refine View.rel ?_;repeat' (first | exact EnvLe.nil | exact HeapLe.nil | with_reducible apply EnvLe.cons | with_reducible apply HeapLe.cons | (with_reducible refine RelA.int ?_;first | (refine Keep.mk ?_;first | with_reducible rfl | omega | decide) | skip) | exact rfl | exact ⟨rfl,rfl⟩ | (with_reducible refine RelA.rsl ?_;intro i hi) | (with_reducible refine RelA.arr ?_;intro i hi) | with_reducible refine RelA.pair ?_ ?_ | with_reducible refine RelA.rptr ?_ | (with_reducible refine RelA.rslw ?_;intro i hi) | (refine RelA.rsl ?_;intro i hi) | (refine RelA.rslw ?_;intro i hi) | (refine RelA.arr ?_;intro i hi) | refine RelA.pair ?_ ?_ | refine RelA.tup ?_ | ((first | refine RelA.rslL (by first | rfl | ((try simp only [List.length_take,List.length_drop,List.length_append,List.length_cons,List.length_nil,List.length_map,List.length_range]);omega)) ?_ | refine RelA.rslT (by first | rfl | ((try simp only [List.length_take,List.length_drop,List.length_append,List.length_cons,List.length_nil,List.length_map,List.length_range]);omega)) ?_ | refine RelA.arrL (by first | rfl | ((try simp only [List.length_take,List.length_drop,List.length_append,List.length_cons,List.length_nil,List.length_map,List.length_range]);omega)) ?_);intro i hi;(try simp only [List.length_take,List.length_drop] at hi);(try simp (disch:=omega) only [getD_take,getD_drop,Nat.zero_add,Int.toNat_natCast])) | exact RelA.bif_int | refine RelA.fn ?_ ?_ | exact NoId.self (by first | ((repeat' (first | exact trivial | exact rfl | refine NoFr.bif ?_ ?_ | refine NoId.bif ?_ ?_ | refine AllFr.bif ?_ ?_ | (intro i hi) | (refine ⟨?_,?_⟩) | (intro e;cases e;done)));done) | fail))) <;> (try with_reducible refine Keep.mk ?_) | exact rfl | omega | (intro i hi;(try rw [Nat.zero_add]);first | exact NoId.self (by first | ((repeat' (first | exact trivial | exact rfl | refine NoFr.bif ?_ ?_ | refine NoId.bif ?_ ?_ | refine AllFr.bif ?_ ?_ | (intro i hi) | (refine ⟨?_,?_⟩) | (intro e;cases e;done)));done) | fail) | exact rfl | (obtain rfl:=cs1_ hi;exact rfl) | (rcases cs2_ hi with rfl | rfl <;> exact rfl) | (rcases cs3_ hi with rfl | rfl | rfl <;> exact rfl) | (rcases cs4_ hi with rfl | rfl | rfl | rfl <;> exact rfl)))
      · repeat' (first | exact trivial | exact rfl | refine NoFr.bif ?_ ?_ | refine NoId.bif ?_ ?_ | refine AllFr.bif ?_ ?_ | (intro i hi) | (refine ⟨?_,?_⟩) | (intro e;cases e;done))
      refine D_ ?_
      refine DSeq.callp false (refRotr_ok ((Sha.sched b t).getD ((t : Int) - 2).toNat 0) 19 (by omega) (by omega)) Tryz.func105 GOk.nil subG.nil (by rfl) (fastE (by rfl)) (fastH (by rfl)) (by rfl) (by rfl) rfl rfl rfl rfl rfl (by rfl) (by rfl) ?_ ?_ trivial (fun e=>by cases e) ?_
      · repeat' (first | exact View.rel ⟨rfl,rfl⟩ | (refine View.sln (by rfl) (by rfl) (by (first | exact trivial | exact u8_in _ rfl | exact u32_in _ rfl | ((with_reducible refine AllP.guard ?_);simp only [AllP,inI,fitV,maxK,inK,inbL,inb,List.append,List.cons_append,List.nil_append,true_and,and_true];first | done | omega))) ?_ ⟨rfl,rfl⟩ ?_ ?_) | exact View.nil | exact View.emp | refine View.pair ?_ ?_ | refine View.fn ?_ ?_ | refine View.ptr (by rfl) (by rfl) (by (first | exact trivial | exact u8_in _ rfl | exact u32_in _ rfl | ((with_reducible refine AllP.guard ?_);simp only [AllP,inI,fitV,maxK,inK,inbL,inb,List.append,List.cons_append,List.nil_append,true_and,and_true];first | done | omega))) (by rfl) ⟨rfl,rfl⟩ ?_ | exact View.rel (NoId.self (by first | ((repeat' (first | exact trivial | exact rfl | refine NoFr.bif ?_ ?_ | refine NoId.bif ?_ ?_ | refine AllFr.bif ?_ ?_ | (intro i hi) | (refine ⟨?_,?_⟩) | (intro e;cases e;done)));done) | fail)) | (exact NoId.self (by first | ((repeat' (first | exact trivial | exact rfl | refine NoFr.bif ?_ ?_ | refine NoId.bif ?_ ?_ | refine AllFr.bif ?_ ?_ | (intro i hi) | (refine ⟨?_,?_⟩) | (intro e;cases e;done)));done) | fail)) | exact ⟨rfl,rfl⟩ | (refine View.rel ?_;repeat' (first | exact EnvLe.nil | exact HeapLe.nil | with_reducible apply EnvLe.cons | with_reducible apply HeapLe.cons | (with_reducible refine RelA.int ?_;first | (refine Keep.mk ?_;first | with_reducible rfl | omega | decide) | skip) | exact rfl | exact ⟨rfl,rfl⟩ | (with_reducible refine RelA.rsl ?_;intro i hi) | (with_reducible refine RelA.arr ?_;intro i hi) | with_reducible refine RelA.pair ?_ ?_ | with_reducible refine RelA.rptr ?_ | (with_reducible refine RelA.rslw ?_;intro i hi) | (refine RelA.rsl ?_;intro i hi) | (refine RelA.rslw ?_;intro i hi) | (refine RelA.arr ?_;intro i hi) | refine RelA.pair ?_ ?_ | refine RelA.tup ?_ | ((first | refine RelA.rslL (by first | rfl | ((try simp only [List.length_take,List.length_drop,List.length_append,List.length_cons,List.length_nil,List.length_map,List.length_range]);omega)) ?_ | refine RelA.rslT (by first | rfl | ((try simp only [List.length_take,List.length_drop,List.length_append,List.length_cons,List.length_nil,List.length_map,List.length_range]);omega)) ?_ | refine RelA.arrL (by first | rfl | ((try simp only [List.length_take,List.length_drop,List.length_append,List.length_cons,List.length_nil,List.length_map,List.length_range]);omega)) ?_);intro i hi;(try simp only [List.length_take,List.length_drop] at hi);(try simp (disch:=omega) only [getD_take,getD_drop,Nat.zero_add,Int.toNat_natCast])) | exact RelA.bif_int | refine RelA.fn ?_ ?_ | exact NoId.self (by first | ((repeat' (first | exact trivial | exact rfl | refine NoFr.bif ?_ ?_ | refine NoId.bif ?_ ?_ | refine AllFr.bif ?_ ?_ | (intro i hi) | (refine ⟨?_,?_⟩) | (intro e;cases e;done)));done) | fail))) <;> (try with_reducible refine Keep.mk ?_) | exact rfl | omega | (intro i hi;(try rw [Nat.zero_add]);first | exact NoId.self (by first | ((repeat' (first | exact trivial | exact rfl | refine NoFr.bif ?_ ?_ | refine NoId.bif ?_ ?_ | refine AllFr.bif ?_ ?_ | (intro i hi) | (refine ⟨?_,?_⟩) | (intro e;cases e;done)));done) | fail) | exact rfl | (obtain rfl:=cs1_ hi;exact rfl) | (rcases cs2_ hi with rfl | rfl <;> exact rfl) | (rcases cs3_ hi with rfl | rfl | rfl <;> exact rfl) | (rcases cs4_ hi with rfl | rfl | rfl | rfl <;> exact rfl)))
      · repeat' (first | exact trivial | exact rfl | refine NoFr.bif ?_ ?_ | refine NoId.bif ?_ ?_ | refine AllFr.bif ?_ ?_ | (intro i hi) | (refine ⟨?_,?_⟩) | (intro e;cases e;done))
      refine D_ ?_
      refine S_ ?_
      refine VC.draw (mkP [(0,0),(1,0),(2,2),(3,6),(4,14),(5,0),(6,62),(7,0),(8,128),(9,384),(10,896),(11,2046),(12,0),(13,8190),(14,16383)]) [15] (by rfl) (by kernel_rfl) (by rfl) (by rfl) ?_
      refine D_ ?_
      refine S_ ?_
      refine ⟨t + 1,by omega,by omega,?_⟩
      (refine Sim.less [] (by rfl) ?_ ?_ <;> (repeat' (first | (exact EnvLe.nil) | (exact HeapLe.nil) | (with_reducible apply EnvLe.cons) | (with_reducible apply HeapLe.cons) | ((with_reducible refine RelA.int ?_;first | (refine Keep.mk ?_;first | with_reducible rfl | omega | decide) | skip)) | (exact rfl) | (exact ⟨rfl,rfl⟩) | ((refine RelA.rsl ?_;intro i hi)) | ((refine RelA.arr ?_;intro i hi)) | fail)) <;> (try with_reducible refine Keep.mk ?_))
      rw [sched_high b t ht1]
      refine set32 (n:=64) (Sha.sched_length b t) (congrArg (AV.int .u32) ?_) i
      rw [show ((t : Int) - 16).toNat = t - 16 by omega,show ((t : Int) - 15).toNat = t - 15 by omega,show ((t : Int) - 7).toNat = t - 7 by omega,show ((t : Int) - 2).toNat = t - 2 by omega]
      exact next_fold _ _ _ _
    · refine S_ ?_
      obtain rfl : t = 64:=by omega
      exact retQ_ok (by rfl) [] nil_sub ⟨rfl,rfl⟩
end Go.Proofs.YtmbldnahcmkpgaaGreatDoor
